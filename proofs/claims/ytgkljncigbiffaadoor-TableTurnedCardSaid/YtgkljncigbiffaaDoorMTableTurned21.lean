/- A statement that goes through pairs: what stands ahead of each. Plain facts of this program. No condition. -/
import Derived.Test.YtgkljncigbiffaaDoorMTableTurned20
namespace Go.Proofs.YtgkljncigbiffaaDoor
open Go.RowKit
theorem pairsX_of {w : World} {A : Option Addr} {l : List PairT} (h : Pairs w A l) (X : List Nat) (hX : ∀ x ∈ X, w.heap.size ≤ x) : PairsX X w A l := fun i hi hne => by
  obtain ⟨b, off, rfl, hlt, hc⟩ := h (by omega)
  obtain ⟨A1, c1, A2, c2, k1, k2, k3, k4⟩ := hc i hi
  have hnn : l[i].1.map u8v ≠ [] := fun e => by
    have := congrArg List.length e
    rw [List.length_map, List.length_nil] at this
    omega
  obtain ⟨b3, off3, e3, hc3⟩ := k4.k hnn
  have hb3 : b3 < w.heap.size := World.block_lt_of_cell? w _ (hc3 0 _ (List.getElem?_eq_getElem (by rw [List.length_map]; omega)))
  subst e3
  refine ⟨b, off, ⟨b3, off3, none⟩, c1, rfl, fun hm => ?_, k1, k4.kc, k4.km, k4.k, fun hm => ?_⟩
  · have := hX _ hm; omega
  · have : w.heap.size ≤ b3 := hX _ hm
    omega
section
variable {w0 w w' : World} {base : Nat} {v v' : Value} {l : List PairT} {rows sp : List Value} {X : List Nat}
end
section
variable {B gp dp : Nat} {Y : List Nat} {w w' : World} {g : Grd} {d : Dsk}
/-- Blocks are written that are none of a grid's. -/
theorem GX.nearT {X : List Nat} (h : GX B Y w gp dp g d) (k : Near X w w') (hX : ∀ x ∈ X, ∃ t cs, Blk w x t cs ∧ NG t) : GX B Y w' gp dp g d := by
  obtain ⟨q, h1, h2, h3, h4, h5, h6, h7⟩ := h
  refine ⟨q, h1, h2, h3, h4.near k (fun x hx hm => ?_), h5, fun y hy => Nat.lt_of_lt_of_le (h6 y hy) k.size, Nat.le_trans h7 k.size⟩
  obtain ⟨t, cs, hb, ht⟩ := hX x hm
  exact h4.offT hb ht hx
end
/-- The table of some pairs in a grid of 20. -/
theorem map_plain {l : List PairT} (hp : (ppack l).1 = 0) : ∃ D : Nat → Dsk, D 0 = Dsk.new (104 + 4 * 20) ∧ Puts 3 ((ppack l).2.map gbody) (kbytes ((ppack l).2.map gkey)) (tk 3 (ppack l).2.length) (tG 20) D (tk 3) ∧ TOpen (tG 20 ((ppack l).2.length + 1)) (D ((ppack l).2.length + 1)) (tk 3 (ppack l).2.length) (ppack l).2 ((List.range (ppack l).2.length).map (tk 3)) ∧
    (ppack l).2.flatten = l ∧ (ppack l).2.length ≤ 15 ∧ cnts (tG 20 0).L 0 = 20 ∧ l.length ≤ 64 ∧ l.Pairwise (fun a b => a.1 < b.1) ∧ l.all pok = true ∧ psorted l = true ∧ l ≠ [] ∧ TWr 20 3 ((ppack l).2.map gbody) (kbytes ((ppack l).2.map gkey)) (Dsk.new (104 + 4 * 20)).N ((ppack l).2.length + 1) (D ((ppack l).2.length + 1)) := by
  obtain ⟨p1, p2, p3, p4, p5⟩ := ppack_ok hp
  have hm : (ppack l).2.length ≤ 15 := by rw [p5]; exact pgroups_few p4 p2
  have hkl := kbytes_le ((ppack l).2.map gkey) (fun k hk => (gkey_ok hp hk).2)
  rw [List.length_map] at hkl
  have h := puts_new (n := 20) (s := 3) (bs := (ppack l).2.map gbody) (ix := kbytes ((ppack l).2.map gkey)) (d := Dsk.new (104 + 4 * 20)) (by decide) (by decide) (by rw [List.length_map]; omega) (fun b hb => gbody_ok hp hb) (by omega) (by omega) (by rw [List.length_map]; omega) ⟨Dsk.Ok.new (by omega), rfl, Nat.le_refl _⟩
  rw [List.length_map] at h
  obtain ⟨hs, hf⟩ := table_stands (n := 20) (s := 3) (l := l) (g := tG 20 ((ppack l).2.length + 1)) hp h.2 (by decide) (by decide) (by omega) (by omega) rfl
  exact ⟨tD 20 3 ((ppack l).2.map gbody) (kbytes ((ppack l).2.map gkey)) (Dsk.new (104 + 4 * 20)), rfl, h.1, hs, hf, hm, by decide +kernel, p2, psorted_pair p3, p4, p3, p1, h.2⟩
theorem ppack_two (l : List PairT) : (ppack l).1 = 0 ∨ (ppack l).1 = 2 := by
  unfold ppack
  split
  · exact .inr rfl
  · exact .inl rfl
section
variable {w W W' : World} {B gp dp : Nat} {g : Grd} {d : Dsk} {rb : Nat} {RC : Array Value} {va vs : Value} {l lf : List PairT} {ra sa rs ss : List Value}
end
end Go.Proofs.YtgkljncigbiffaaDoor

/- A list of pairs as an argument. Plain facts. Condition: the list can be read. -/
namespace Go.Proofs.YtgkljncigbiffaaDoor
open Go.RowKit
def pairSh : Sh := .cons (.slice .byte) (.cons (.slice .byte) (.cons .bool .nil))
theorem pairSh_is {w : World} {x : PairT} {cs : List Value} (h : Sh.Is w pairSh x cs) : ∃ A1 c1 A2 c2, cs = [.slice A1 x.1.length c1, .slice A2 x.2.1.length c2, .bool x.2.2.1] ∧ PairAt w x A1 c1 A2 c2 := by
  obtain ⟨c1, c2, rfl, _, hx, c3, c4, rfl, _, hz, c5, c6, rfl, _, hu, hv⟩ := h
  obtain ⟨A, c, rfl, h2, h3, h4⟩ := Sh.Is.bytes hx
  obtain ⟨B, d, rfl, h6, h7, h8⟩ := Sh.Is.bytes hz
  have hu : c5 = [.bool x.2.2.1] := hu
  have hv : c6 = [] := hv
  subst hu hv
  exact ⟨A, c, B, d, rfl, h2, by simpa [maxLen] using h3, h6, by simpa [maxLen] using h7, h4, h8⟩
theorem Pairs.both {w : World} {B : Option Addr} {ts : List PairT} {rows : List (List Value)} (h : Both (fun (d : pairSh.T) r => r.length = pairSh.size ∧ Sh.Is w pairSh d r) ts rows) (hr : Reads w B rows.flatten) : Pairs w B ts := by
  have hat : ∀ i, (hi : i < ts.length) → ∃ A1 c1 A2 c2, rows.flatten[i * 3]? = some (.slice A1 ts[i].1.length c1) ∧ rows.flatten[i * 3 + 1]? = some (.slice A2 ts[i].2.1.length c2) ∧ rows.flatten[i * 3 + 2]? = some (.bool ts[i].2.2.1) ∧ PairAt w ts[i] A1 c1 A2 c2 := by
    intro i hi
    obtain ⟨r, h1, h2, h3⟩ := both_at h i hi
    obtain ⟨A1, c1, A2, c2, rfl, hbd⟩ := pairSh_is h2
    refine ⟨A1, c1, A2, c2, ?_, ?_, ?_, hbd⟩
    · have := h3 0 (by decide)
      rw [show i * pairSh.size + 0 = i * 3 by simp [pairSh, Sh.size]] at this
      rw [this]; rfl
    · have := h3 1 (by decide)
      rw [show i * pairSh.size + 1 = i * 3 + 1 by simp [pairSh, Sh.size]] at this
      rw [this]; rfl
    · have := h3 2 (by decide)
      rw [show i * pairSh.size + 2 = i * 3 + 2 by simp [pairSh, Sh.size]] at this
      rw [this]; rfl
  intro hp
  have hne : rows.flatten ≠ [] := by
    intro e
    obtain ⟨A1, c1, A2, c2, h1, -⟩ := hat 0 hp
    rw [e] at h1; simp at h1
  obtain ⟨b, off, e, hc⟩ := hr hne
  obtain ⟨_, _, _, _, h0, -⟩ := hat 0 hp
  refine ⟨b, off, e, World.block_lt_of_cell? w _ (hc _ _ h0), fun i hi => ?_⟩
  obtain ⟨A1, c1, A2, c2, k1, k2, k3, k4⟩ := hat i hi
  exact ⟨A1, c1, A2, c2, hc _ _ k1, by rw [Nat.add_assoc]; exact hc _ _ k2, by rw [Nat.add_assoc]; exact hc _ _ k3, k4⟩
end Go.Proofs.YtgkljncigbiffaaDoor

/- A place that any number says: what it answers. Condition: the numbers are Go's ints. -/
namespace Go.Proofs.YtgkljncigbiffaaDoor
open Go.RowKit
/-- The place below n that x says. -/
def pickN (x n : Int) : Nat := if n < 1 then 0 else (x % n).toNat
theorem pickN_lt (x n : Int) (h : 1 ≤ n) : (pickN x n : Int) < n := by
  unfold pickN
  rw [if_neg (by omega)]
  have h1 := Int.emod_nonneg x (show n ≠ 0 by omega)
  have h2 := Int.emod_lt_of_pos x (show 0 < n by omega)
  omega
set_option maxHeartbeats 400000 in
theorem pick_any (x n : Int) (hn : n ≤ 9223372036854775807) (hn1 : 1 ≤ n) (w : World) :
    Calls Tryd.prog 35 #[.int .i64 x, .int .i64 n] w fun e w' => e = .returned (.int .i64 (pickN x n)) ∧ w' = w := by
  have e1 : (pickN x n : Int) = x % n := by
    unfold pickN; rw [if_neg (by omega)]; have h1 := Int.emod_nonneg x (show n ≠ 0 by omega); omega
  rw [e1]
  clear e1
  have h1 := Int.emod_nonneg x (show n ≠ 0 by omega)
  have h2 := Int.emod_lt_of_pos x (show 0 < n by omega)
  have H1 : x.tmod n = (if 0 ≤ x ∨ x % n = 0 then x % n else x % n - n) := by
    rw [Int.tmod_eq_emod]
    have hd : n ∣ x ↔ x % n = 0 := Int.dvd_iff_emod_eq_zero
    by_cases h0 : 0 ≤ x
    · simp [h0]
    · by_cases h3 : x % n = 0
      · simp [h3, hd]
      · simp [h0, h3, hd]; omega
  obtain ⟨r, hr⟩ : ∃ r, r = x % n := ⟨_, rfl⟩
  rw [← hr] at h1 h2 H1 ⊢
  clear hr
  by_cases hp : 0 ≤ x ∨ r = 0
  · rw [if_pos hp] at H1
    have H := Lib.hid H1
    clear H1 hp
    have hn0 : (n == 0) = false := by rw [beq_eq_false_iff_ne]; omega
    go_enter Tryd.func35, Tryd.ntmps35
    go_wp2
    all_goals have h3 := H.out
    · exfalso; omega
    · go_ret
      exact ⟨ret_int h3, rfl⟩
  · rw [if_neg hp] at H1
    have H := Lib.hid H1
    clear H1 hp
    go_enter Tryd.func35, Tryd.ntmps35
    go_wp2
    all_goals have h3 := H.out
    · go_ret
      exact ⟨ret_int (by rw [h3, IntWalk.wrap64_in _ ⟨by omega, by omega⟩]; omega), rfl⟩
    · exfalso; omega
end Go.Proofs.YtgkljncigbiffaaDoor

/- TableTurned: turns as an argument; what stays while blocks are read and turned. Plain facts of this program. No condition. -/
namespace Go.Proofs.YtgkljncigbiffaaDoor
open Go.RowKit
/-- A byte that is turned: the block, the place, by which bits. -/
abbrev Turn3 := Int × Int × UInt8 × Unit
def Turns3 (w : World) (B : Option Addr) (ts : List Turn3) : Prop :=
  0 < ts.length → ∃ b off, B = some ⟨b, off, none⟩ ∧ b < w.heap.size ∧ ∀ i, (h : i < ts.length) → w.cell? ⟨b, off + i * 3, none⟩ = some (.int .i64 ts[i].1) ∧ w.cell? ⟨b, off + i * 3 + 1, none⟩ = some (.int .i64 ts[i].2.1) ∧ w.cell? ⟨b, off + i * 3 + 2, none⟩ = some (.int .u8 (iu8 ts[i].2.2.1))
def turn3Sh : Sh := .cons (.int .i64) (.cons (.int .i64) (.cons .byte .nil))
theorem Turns3.of {w : World} {B : Option Addr} {ts : List Turn3} {rows : List (List Value)} (h : Both (fun (d : turn3Sh.T) r => r.length = turn3Sh.size ∧ Sh.Is w turn3Sh d r) ts rows) (hr : Reads w B rows.flatten) : Turns3 w B ts := by
  have hat : ∀ i, (hi : i < ts.length) → rows.flatten[i * 3]? = some (.int .i64 ts[i].1) ∧ rows.flatten[i * 3 + 1]? = some (.int .i64 ts[i].2.1) ∧ rows.flatten[i * 3 + 2]? = some (.int .u8 (iu8 ts[i].2.2.1)) := by
    intro i hi
    obtain ⟨r, h1, h2, h3⟩ := both_at h i hi
    obtain ⟨c1, c2, rfl, _, hx, c3, c4, rfl, _, hy, c5, c6, rfl, _, hu, hz⟩ := h2
    obtain ⟨rfl, -, -⟩ := hx
    obtain ⟨rfl, -, -⟩ := hy
    have hu : c5 = [u8v ts[i].2.2.1] := hu
    have hz : c6 = [] := hz
    subst hu hz
    refine ⟨?_, ?_, ?_⟩
    · have := h3 0 (by decide)
      rw [show i * turn3Sh.size + 0 = i * 3 by simp [turn3Sh, Sh.size]] at this
      rw [this]; rfl
    · have := h3 1 (by decide)
      rw [show i * turn3Sh.size + 1 = i * 3 + 1 by simp [turn3Sh, Sh.size]] at this
      rw [this]; rfl
    · have := h3 2 (by decide)
      rw [show i * turn3Sh.size + 2 = i * 3 + 2 by simp [turn3Sh, Sh.size]] at this
      rw [this]; rfl
  intro hp
  have hne : rows.flatten ≠ [] := by intro e; have := (hat 0 hp).1; rw [e] at this; simp at this
  obtain ⟨b, off, e, hc⟩ := hr hne
  exact ⟨b, off, e, World.block_lt_of_cell? w _ (hc _ _ (hat 0 hp).1), fun i hi => ⟨hc _ _ (hat i hi).1, by rw [Nat.add_assoc]; exact hc _ _ (hat i hi).2.1, by rw [Nat.add_assoc]; exact hc _ _ (hat i hi).2.2⟩⟩
/-- What stays. -/
structure TuSt (w : World) (B gp dp : Nat) (g : Grd) (d : Dsk) (rb : Nat) (RC : Array Value) (bl offl : Nat) (lb : List RefT) (wb : Nat) (kv vv : Value) (pm : PairT) (W : World) : Prop where
  grid : GX B [bl] W gp dp g d
  bel : Below w.heap.size w W
  run : Blk W rb 35 RC
  refs : Refs W (some ⟨bl, offl, none⟩) lb
  was : Blk W wb 40 #[kv, vv, .bool pm.2.2.1]
  wasO : PairO W 0 kv vv pm
section
variable {w W W' : World} {B gp dp : Nat} {g g2 : Grd} {d d2 : Dsk} {rb : Nat} {RC : Array Value} {bl offl : Nat} {lb : List RefT} {wb : Nat} {kv vv : Value} {pm : PairT}
theorem TuSt.ts (h : TuSt w B gp dp g d rb RC bl offl lb wb kv vv pm W) (hG : GX B [bl] W' gp dp g2 d2) (hS : TS B [bl] W W') (hB : w.heap.size ≤ B) : TuSt w B gp dp g2 d2 rb RC bl offl lb wb kv vv pm W' :=
  ⟨hG, h.bel.trans (hS.bel.mono hB), hS.so.blk h.run (by unfold NG; decide), hS.st.same.refs h.refs (fun ad e => by injection e with e; subst e; simp), hS.so.blk h.was (by unfold NG; decide), hS.so.pairO h.wasO⟩
theorem TuSt.below (h : TuSt w B gp dp g d rb RC bl offl lb wb kv vv pm W) (k : Below W.heap.size W W') (hB : w.heap.size ≤ B) : TuSt w B gp dp g d rb RC bl offl lb wb kv vv pm W' := h.ts (h.grid.belowT k).1 (h.grid.belowT k).2 hB
/-- Lists of bytes of the statement's own are written. -/
theorem TuSt.own {X : List Nat} (h : TuSt w B gp dp g d rb RC bl offl lb wb kv vv pm W) (k : Near X W W') (hX : ∀ x ∈ X, ∃ cs, Blk W x 22 cs) (hlow : ∀ x ∈ X, w.heap.size ≤ x ∧ bl < x) : TuSt w B gp dp g d rb RC bl offl lb wb kv vv pm W' := by
  have hu : ∀ x t cs, t ≠ 22 → Blk W x t cs → x ∉ X := fun x t cs ht hb hm => by
    obtain ⟨cs', hb'⟩ := hX x hm
    exact hb.apart hb' ht rfl
  refine ⟨h.grid.nearT k (fun x hx => ?_), h.bel.trans (k.toBelow (fun x hx => (hlow x hx).1) h.bel.size), h.run.near k (hu _ _ _ (by decide) h.run), ?_, h.was.near k (hu _ _ _ (by decide) h.was), h.wasO.near k (fun x cs hb => hu _ _ _ (by decide) hb)⟩
  · obtain ⟨cs, hb⟩ := hX x hx
    exact ⟨_, cs, hb, by unfold NG; decide⟩
  · intro hp
    obtain ⟨b, off, e, hlt, hc⟩ := h.refs hp
    injection e with e
    injection e with e1 e2
    subst e1 e2
    have hn : bl ∉ X := fun hm => by have := (hlow bl hm).2; omega
    exact ⟨bl, offl, rfl, Nat.lt_of_lt_of_le hlt k.size, fun i hi => ⟨(k.cell (p := ⟨bl, offl + i * 2, none⟩) hlt hn).trans (hc i hi).1, (k.cell (p := ⟨bl, offl + i * 2 + 1, none⟩) hlt hn).trans (hc i hi).2⟩⟩
end
/-- Ahead of each block: its bytes are kept. -/
def TuRaw (w : World) (B gp dp : Nat) (g : Grd) (d : Dsk) (rb : Nat) (RC : Array Value) (bl offl : Nat) (lb : List RefT) (wb : Nat) (kv vv : Value) (pm : PairT) (bS : Nat) (v17 v18 : Value) (W : World) : Prop :=
  ∃ (k : Nat) (rows sp : List Value), k ≤ lb.length ∧ v18 = .int .i64 (k : Int) ∧ TuSt w B gp dp g d rb RC bl offl lb wb kv vv pm W ∧ RawsAt d lb W bS v17 k rows sp
/-- Ahead of each turn. -/
def TuTrn (w : World) (B gp dp : Nat) (g : Grd) (d : Dsk) (rb : Nat) (RC : Array Value) (bl offl : Nat) (lb : List RefT) (wb : Nat) (kv vv : Value) (pm : PairT) (bS : Nat) (v17 : Value) (rows sp : List Value) (n : Nat) (v21 : Value) (W : World) : Prop :=
  ∃ (k : Nat) (d' : Dsk), k ≤ n ∧ v21 = .int .i64 (k : Int) ∧ TuSt w B gp dp g d' rb RC bl offl lb wb kv vv pm W ∧ Rm d' 20 ∧ RawsAt d lb W bS v17 lb.length rows sp
/-- Ahead of each block that is looked at again. -/
def TuChk (w : World) (B gp dp : Nat) (g : Grd) (d d' : Dsk) (rb : Nat) (RC : Array Value) (bl offl : Nat) (lb : List RefT) (wb : Nat) (kv vv : Value) (pm : PairT) (bS : Nat) (v17 : Value) (rows sp : List Value) (v23 : Value) (W : World) : Prop :=
  ∃ k : Nat, k ≤ lb.length ∧ v23 = .int .i64 (k : Int) ∧ TuSt w B gp dp g d' rb RC bl offl lb wb kv vv pm W ∧ RawsAt d lb W bS v17 lb.length rows sp ∧ ∀ j, (h : j < lb.length) → j < k → (GB.read (gblk d' lb[j].1)).1 ≠ 0 ∨ gblk d' lb[j].1 = gblk d lb[j].1
theorem PairO.atS {w : World} {base : Nat} {p : PairT} {A B : Option Addr} {c e : Nat} (h : PairO w base (.slice A p.1.length c) (.slice B p.2.1.length e) p) : PairAt w p A c B e := by
  obtain ⟨A', c', B', e', h1, h2, h3⟩ := h.at_
  injection h1 with h11 h12 h13
  injection h2 with h21 h22 h23
  subst h11 h13 h21 h23
  exact h3
end Go.Proofs.YtgkljncigbiffaaDoor

/- []byte("..") of a constant, its row laid before. Plain facts over any program. No condition. -/
namespace Go
open Go.RowKit
theorem freeze_upd (w : World) (g k : Nat) : Upd g w (w.freeze ⟨g, k, none⟩ 1) := by
  unfold World.freeze
  rw [if_neg (by decide)]
  exact ⟨rfl, rfl, rfl, by simp, fun j hj => by simp [Array.getElem?_modify, Ne.symm hj]⟩
theorem freeze_cells {w : World} {g : Nat} {t : TypeId} {cs : Array Value} (h : Blk w g t cs) (k : Nat) : (w.freeze ⟨g, k, none⟩ 1).heap[g]? = some (.cells cs t (k, k + 1)) := by
  unfold World.freeze
  rw [if_neg (by decide)]
  unfold Blk at h
  simp [Array.getElem?_modify, h]
theorem wpList_bytes_mark {P : Program} {w : World} {Q : Exit → Act → World → Prop} {ops : Array Oper} {rest : List Oper} {o : Oper} {a : Act} (hgd : o.guard = none) (t e : TypeId) (x : Operand) (ho : o.op = .convert t t x)
    (ht : P.underlying t = some (.slice e)) (he : P.underlying e = some (.int .u8)) (l : List UInt8) (n g : Nat) (hb : Blk w g e (l.map u8v).toArray) (hx : a.eval x = .slice (some ⟨g, 0, none⟩) n n)
    (h : ∀ w', Bytes w' (some ⟨g, 0, none⟩) l → Upd g w w' → wpList P ops Q rest (a.put o.dst (.slice (some ⟨g, 0, none⟩) n n)) w') : wpList P ops Q (o :: rest) a w := by
  refine wpList_plain hgd fun K hK => ?_
  unfold Oper.wp execOp
  have hsh : w.shape? g = some (e, (l.map u8v).toArray.size) := by
    unfold World.shape?
    unfold Blk at hb
    rw [hb]
  have hr : (convert t t (.slice (some ⟨g, 0, none⟩) n n)).run P w = .ok (.slice (some ⟨g, 0, none⟩) n n) (w.freeze ⟨g, (l.map u8v).toArray.size, none⟩ 1) := by
    simp [convert, run_underlying ht, run_underlying he, markStringish, hsh]
  simp only [ho, hx, Sem.run_bind, hr, Result.andThen_ok, Sem.run_pure]
  refine hK _ _ (h _ (fun _ => ⟨g, 0, rfl, fun j v hv => ?_⟩) (freeze_upd w g _))
  rw [Nat.zero_add, cell_of_row _ _ _ _ _ _ (freeze_cells hb _)]
  simpa using hv
end Go

/- The tables' laws: the chapter's table is written and asked. Condition: the library's table is there. -/
namespace Go.Proofs.YtgkljncigbiffaaDoor
open Go.RowKit
theorem abc_pack : ppack abcL = (0, [abcL]) := by kernel_rfl
theorem abc_find1 : pfind abcL [97] = some ([97], [49], false, ()) := by kernel_rfl
theorem abc_find2 : pfind abcL [100] = none := by kernel_rfl
theorem abc_cnt : cnts (tG 8 0).L 0 = 8 := by decide +kernel
theorem abc_ix : kbytes ((ppack abcL).2.map gkey) = [1, 97] := by decide +kernel
theorem abc_bd : ((ppack abcL).2.map gbody).length = 1 := by decide +kernel
theorem abc_bl : ∀ b ∈ (ppack abcL).2.map gbody, b.length ≤ 860 := by decide +kernel
def abD (s : Int) : Nat → Dsk := tD 8 s ((ppack abcL).2.map gbody) (kbytes ((ppack abcL).2.map gkey)) (Dsk.new (104 + 4 * 8))
theorem abc_puts : Puts 5 ((ppack abcL).2.map gbody) (kbytes ((ppack abcL).2.map gkey)) (2, 5, ()) (tG 8) (abD 5) (tk 5) ∧ TWr 8 5 ((ppack abcL).2.map gbody) (kbytes ((ppack abcL).2.map gkey)) (Dsk.new (104 + 4 * 8)).N 2 (abD 5 2) := by
  have h := puts_new (n := 8) (s := 5) (bs := (ppack abcL).2.map gbody) (ix := kbytes ((ppack abcL).2.map gkey)) (d := Dsk.new (104 + 4 * 8)) (by decide) (by decide) (by rw [abc_bd]; omega) abc_bl (by rw [abc_ix]; decide) (by omega) (by rw [abc_bd]; omega) ⟨Dsk.Ok.new (by omega), rfl, Nat.le_refl _⟩
  rw [abc_bd] at h
  exact h
theorem abc_get (key : List UInt8) : tget (tG 8 2) (abD 5 2) none (2, 5, ()) key = ((match pfind abcL key with | none => 6 | some _ => 0), (pfind abcL key).getD pnone, tG 8 2) ∧ ∀ a b : Nat, a ≤ b → b < (topen (tG 8 2) (abD 5 2) none (2, 5, ())).2.1.2.length → key < (topen (tG 8 2) (abD 5 2) none (2, 5, ())).2.1.2.getD a [] → key < (topen (tG 8 2) (abD 5 2) none (2, 5, ())).2.1.2.getD b [] := by
  have hl : (ppack abcL).2.length = 1 := by rw [abc_pack]; rfl
  have h := table_get (n := 8) (s := 5) (l := abcL) (N := (Dsk.new (104 + 4 * 8)).N) (d := abD 5 2) (g := tG 8 2) (by rw [abc_pack]) (by rw [hl]; exact abc_puts.2) (by decide) (by decide) (by omega) (by rw [hl]; omega) rfl key
  rw [hl, show tk 5 1 = ((2 : Int), (5 : Int), ()) from rfl] at h
  exact h
set_option maxRecDepth 100000 in
set_option maxHeartbeats 4000000 in
theorem tawake_any (w : World) (hT : Tab w) : Calls Tryd.prog 9 #[] w fun e w' => e = .returned (.bool true) ∧ Below w.heap.size w w' := by
  have HT := Lib.hid hT
  have hz := zeroPairrun
  clear hT
  go_enter Tryd.func9, Tryd.ntmps9
  go_wp2_with fail
  refine (tmade_any 8 (by omega) (by omega) w).mono ?_
  rintro e w1 ⟨gp, dp, rfl, ⟨q, rfl, rfl, hgf, hG, hall⟩, hb1⟩
  have H1 := Lib.hid (And.intro hgf (And.intro (show GridR w1 q (tG 8 0) (abD 5 0) none from hG) (And.intro hall hb1)))
  clear hgf hG hall hb1
  go_wp2_with fail
  refine (abc_any w1).mono ?_
  rintro e w2 ⟨b, rfl, hP, hX, hb2, -⟩
  have hb02 := H1.out.2.2.2.trans (hb2.mono H1.out.2.2.2.size)
  have hbu := tbuild_any (w := w2) (q := q) (G := tG 8) (D := abD 5) (R := tk 5) (root := (2, 5, ())) (s := 5) (H1.out.2.1.below hb2) (HT.out.below hb02) (fun hm => by have := H1.out.2.2.1 _ hm; have := HT.out.1; omega) (some ⟨b, 0, none⟩) 3 abcL (by decide) hP (hX q.all (fun x hx => H1.out.2.1.lt x hx)) (by rw [abc_pack]) (by decide) (by decide) (by rw [abc_cnt, abc_pack]; decide) abc_puts.1 [97] [99] ⟨_, rfl, rfl⟩ ⟨_, rfl, rfl⟩
  rw [show (ppack abcL).2.length = 1 by rw [abc_pack]; rfl] at hbu
  rw [show ((abcL.length : Nat) : Int) = 3 from rfl] at hbu
  have H2 := Lib.hid hb02
  clear hP hX hb2 hb02
  go_wp2_with fail
  refine hbu.mono ?_
  rintro e w3 ⟨fv, lv, sf, sl, rfl, hf, hl, q3, e1, e2, e3, hG3, hN3, hA3⟩
  obtain ⟨F, cf, rfl, -, -, hbf⟩ := OwnB.open_ hf
  obtain ⟨L, cl, rfl, -, -, hbl⟩ := OwnB.open_ hl
  have hall3 : ∀ x ∈ q3.all, w.heap.size ≤ x := fun x hx => by
    rcases hA3 x hx with h | h
    · exact H1.out.2.2.1 x h
    · exact Nat.le_trans H2.out.size h
  have hb03 : Below w.heap.size w w3 := H2.out.trans (hN3.toBelow (fun x hx => H1.out.2.2.1 x hx) H2.out.size)
  have H3 := Lib.hid (And.intro hb03 (And.intro hG3 (And.intro hall3 (And.intro hbf (And.intro hbl e1)))))
  clear hbu hf hl e2 e3 hG3 hN3 hA3 hall3 hb03 hbf hbl e1
  go_wp2_with (first
    | ((with_reducible show wpList _ _ _ ((⟨some 22, _, _, _, _, _⟩ : Oper) :: _) _ _); refine wpList_bytes_mark (o := ⟨some 22, _, _, _, _, _⟩) (by rfl) _ _ _ (by rfl) Tryd.underlying22 Tryd.underlying5 [97] 1 (w3.heap.size + 1) (Blk.new' (w3.alloc (.cells #[.int .i64 2, .int .i64 5, .int .i64 3, .slice F 1 cf, .slice L 1 cl] 35)) 5 #[.int .u8 97] (n := w3.heap.size + 1) (by simp)) (by rfl) ?_; intro w4 hb4 hu4)
    | ((with_reducible show wpList _ _ _ ((⟨some 24, _, _, _, _, _⟩ : Oper) :: _) _ _); refine wpList_bytes_const (o := ⟨some 24, _, _, _, _, _⟩) (by rfl) _ _ _ (by rfl) Tryd.underlying22 Tryd.underlying5 [99] _ (by rfl) 1 (by rfl) ?_; intro w5 hb5 hk5 hsz; clear hsz)
    | fail)
  have hb34 : Below w3.heap.size w3 w4 := (((Below.refl w3.heap.size w3).alloc (Nat.le_refl _) (.cells #[.int .i64 2, .int .i64 5, .int .i64 3, .slice F 1 cf, .slice L 1 cl] 35)).alloc (by simp) (.cells #[.int .u8 97] 5)).upd hu4 (by omega)
  have hg4 : Blk w4 w3.heap.size 35 #[.int .i64 2, .int .i64 5, .int .i64 3, .slice F 1 cf, .slice L 1 cl] := (((Blk.new w3 35 #[.int .i64 2, .int .i64 5, .int .i64 3, .slice F 1 cf, .slice L 1 cl]).alloc (.cells #[.int .u8 97] 5)).upd hu4 (by omega))
  have hs4 := hg4.lt
  have hb46 := hk5.alloc hk5.size (.cells #[.int .i64 2, .int .i64 5, .int .i64 3, .slice (some ⟨w3.heap.size + 1, 0, none⟩) 1 1, .slice (some ⟨w4.heap.size, 0, none⟩) 1 1] 35)
  have hg6 := Blk.new w5 35 #[.int .i64 2, .int .i64 5, .int .i64 3, .slice (some ⟨w3.heap.size + 1, 0, none⟩) 1 1, .slice (some ⟨w4.heap.size, 0, none⟩) 1 1]
  have hb36 := hb34.trans (hb46.mono hb34.size)
  have hb06 := H3.out.1.trans (hb36.mono H3.out.1.size)
  have hd : Below (w5.alloc (.cells #[.int .i64 2, .int .i64 5, .int .i64 3, .slice (some ⟨w3.heap.size + 1, 0, none⟩) 1 1, .slice (some ⟨w4.heap.size, 0, none⟩) 1 1] 35)).heap.size (w5.alloc (.cells #[.int .i64 2, .int .i64 5, .int .i64 3, .slice (some ⟨w3.heap.size + 1, 0, none⟩) 1 1, .slice (some ⟨w4.heap.size, 0, none⟩) 1 1] 35)) (w5.alloc (.cells #[.int .i64 2, .int .i64 5, .int .i64 3, .slice (some ⟨w3.heap.size + 1, 0, none⟩) 1 1, .slice (some ⟨w4.heap.size, 0, none⟩) 1 1] 35)).drew := (Below.refl _ _).drew
  have H6 := Lib.hid (And.intro (hb06.drew) (And.intro (H3.out.2.1.below hb36.drew) (And.intro (Bytes.below H3.out.2.2.2.1 hb36.drew) (And.intro (Bytes.below H3.out.2.2.2.2.1 hb36.drew) (And.intro (Bytes.below hb4 hb46.drew) (Bytes.below hb5 ((Below.refl w5.heap.size w5).alloc (Nat.le_refl _) (.cells #[.int .i64 2, .int .i64 5, .int .i64 3, .slice (some ⟨w3.heap.size + 1, 0, none⟩) 1 1, .slice (some ⟨w4.heap.size, 0, none⟩) 1 1] 35)).drew))))))
  have hc := And.intro ((hg4.below hb46 hs4).drew) hg6.drew
  clear hb34 hg4 hs4 hb46 hg6 hb36 hb06 hd hb4 hu4 hb5 hk5
  rw [← H3.out.2.2.2.2.2] at *
  generalize hc6 : w4.heap.size = c6 at *
  generalize hb6 : w5.heap.size = b6 at *
  clear hc6 hb6
  refine wp_region_tree (fun w' => Blk w' w3.heap.size 35 #[.int .i64 2, .int .i64 5, .int .i64 3, .slice F 1 cf, .slice L 1 cl] ∧ Blk w' b6 35 #[.int .i64 2, .int .i64 5, .int .i64 3, .slice (some ⟨w3.heap.size + 1, 0, none⟩) 1 1, .slice (some ⟨c6, 0, none⟩) 1 1]) [] (PlanT.takes [0, 1, 2] (PlanT.takes [3, 4] (.opt 5 (PlanT.takes [6, 7, 8] (PlanT.takes [9] (.opt 10 (PlanT.takes [11] (.opt 12 (.opt 13 (PlanT.takes [14, 15, 16, 18] (PlanT.takes [17] (.opt 19 (PlanT.takes [20, 21] .done) .no))) .no) .no)) .no))) .no))) (by kernel_rfl) (by kernel_rfl) (hc) ?_
  refine wpTree_pure _ _ _ (by rfl) (by rfl) ?_
  dsimp only [List.filterMap, List.getElem?_cons_zero, List.getElem?_cons_succ]
  repeat (go_big_quiet_step (fail))
  refine wpQuiet_nil ?_
  refine wpTree_takeL _ _ _ (by rfl) (by rfl) (hc) ?_
  dsimp only [List.filterMap, List.getElem?_cons_zero, List.getElem?_cons_succ]
  (refine wpQuiet_want' (by rfl) ?_; refine wpQuiet_load_blk (fun w' hw' => hw'.1) (by rfl) _ _ (by rfl) (by rfl) _ Tryd.underlying35 (by rfl) (sizeRun) (by rfl) ?_; simp only [Act.put, List.setIfInBounds_toArray, List.set_cons_zero, List.set_cons_succ])
  (refine wpQuiet_want' (by rfl) ?_; refine wpQuiet_load_blk (fun w' hw' => hw'.2) (by rfl) _ _ (by rfl) (by rfl) _ Tryd.underlying35 (by rfl) (sizeRun) (by rfl) ?_; simp only [Act.put, List.setIfInBounds_toArray, List.set_cons_zero, List.set_cons_succ])
  refine wpQuiet_nil ?_
  generalize (w5.alloc (.cells #[.int .i64 2, .int .i64 5, .int .i64 3, .slice (some ⟨w3.heap.size + 1, 0, none⟩) 1 1, .slice (some ⟨c6, 0, none⟩) 1 1] 35)).drew = w6 at H6 hc ⊢
  refine wpTree_one _ rfl ?_
  go_wp2_with fail
  have hsr := sameRun_eq (2, 5, ()) 3 F L (some ⟨w3.heap.size + 1, 0, none⟩) (some ⟨c6, 0, none⟩) cf cl 1 1 [97] [99] w6 H6.out.2.2.1 H6.out.2.2.2.1 H6.out.2.2.2.2.1 H6.out.2.2.2.2.2
  unfold runv at hsr
  refine hsr.mono ?_
  rintro e w7 ⟨rfl, hb7⟩
  have hc7 := And.intro (hc.1.below hb7 hc.1.lt) (hc.2.below hb7 hc.2.lt)
  have H7 := Lib.hid (And.intro (H6.out.1.trans (hb7.mono H6.out.1.size)) (H6.out.2.1.below hb7))
  clear hsr hb7 hc H6
  go_wp2_with fail
  refine TreeQ.in_ hc7 ?_
  refine wpTree_pure _ _ _ (by rfl) (by rfl) ?_
  dsimp only [List.filterMap, List.getElem?_cons_zero, List.getElem?_cons_succ]
  repeat (go_big_quiet_step (fail))
  refine wpQuiet_nil ?_
  refine wpTree_takeL _ _ _ (by rfl) (by rfl) (hc7) ?_
  dsimp only [List.filterMap, List.getElem?_cons_zero, List.getElem?_cons_succ]
  (refine wpQuiet_want' (by rfl) ?_; refine wpQuiet_load_blk (fun w' hw' => hw'.1) (by rfl) _ _ (by rfl) (by rfl) _ Tryd.underlying35 (by rfl) (sizeRun) (by rfl) ?_; simp only [Act.put, List.setIfInBounds_toArray, List.set_cons_zero, List.set_cons_succ])
  refine wpQuiet_nil ?_
  refine wpTree_one _ rfl ?_
  go_wp2_with fail
  refine (abc_any w7).mono ?_
  rintro e w8 ⟨b8, rfl, -, -, hb8, a0, b0, hr8, hp8, ha0, hb0⟩
  have hc8 := And.intro (hc7.1.below hb8 hc7.1.lt) (hc7.2.below hb8 hc7.2.lt)
  have H8 := Lib.hid (And.intro (H7.out.1.trans (hb8.mono H7.out.1.size)) (And.intro (H7.out.2.below hb8) (And.intro hp8 (And.intro (fun hm => by have := H7.out.2.lt a0 hm; omega : a0 ∉ q3.all) (fun hm => by have := H7.out.2.lt b0 hm; omega : b0 ∉ q3.all)))))
  clear hc7 hb8 hp8 ha0 hb0 H7
  go_wp2_with fail
  refine TreeQ.in_ hc8 ?_
  refine wpTree_pure _ _ _ (by rfl) (by rfl) ?_
  dsimp only [List.filterMap, List.getElem?_cons_zero, List.getElem?_cons_succ]
  repeat (go_big_quiet_step (fail))
  refine wpQuiet_nil ?_
  refine wpTree_one _ rfl ?_
  go_wp2_with (first
    | ((with_reducible show wpList _ _ _ ((⟨some 38, _, _, _, _, _⟩ : Oper) :: _) _ _); refine wpList_want (by rfl) ?_; refine wpList_load_mid (o := ⟨some 38, _, _, _, _, _⟩) hr8 (by rfl) _ _ (by rfl) (by rfl) _ Tryd.underlying40 (by rfl) sizePair (by rfl) ?_)
    | fail)
  refine TreeQ.in_ hc8 ?_
  refine wpTree_one _ rfl ?_
  go_wp2_with fail
  have hg1 := gets_any (w := w8) (q := q3) (g := tG 8 2) (g2 := tG 8 2) (d := abD 5 2) (f := none) H8.out.2.1 (by decide) (2, 5, ()) 3 F L 1 cf 1 cl [97] (by decide) ([97], [49], false, ()) (some ⟨a0, 0, none⟩) (some ⟨b0, 0, none⟩) 1 1 0
    (fun w' hn => ⟨by decide, by decide, by decide, by decide, Bytes.near H8.out.2.2.1.k hn (fun ad e => by injection e with e; subst e; exact H8.out.2.2.2.1), Bytes.near H8.out.2.2.1.v hn (fun ad e => by injection e with e; subst e; exact H8.out.2.2.2.2)⟩)
    (by rw [(abc_get [97]).1, abc_find1]; rfl) (abc_get [97]).2
  unfold runv pairc at hg1
  refine hg1.mono ?_
  rintro e w9 ⟨rfl, hp9⟩
  have hc9 := And.intro (hp9.blk H8.out.2.1 hc8.1 (by decide)) (hp9.blk H8.out.2.1 hc8.2 (by decide))
  obtain ⟨q9, e1, -, -, hG9, hN9, hA9⟩ := hp9
  have hsz := H8.out.1.size
  have H9 := Lib.hid (And.intro (H8.out.1.trans (hN9.toBelow (fun x hx => H3.out.2.2.1 x hx) hsz)) (And.intro hG9 (fun x hx => (hA9 x hx).elim (fun h => H3.out.2.2.1 x h) (fun h => Nat.le_trans hsz h) : ∀ x ∈ q9.all, w.heap.size ≤ x)))
  clear hg1 hG9 hN9 hA9 hc8 hr8 hsz
  go_wp2_with fail
  refine TreeQ.in_ hc9 ?_
  refine wpTree_pure _ _ _ (by rfl) (by rfl) ?_
  dsimp only [List.filterMap, List.getElem?_cons_zero, List.getElem?_cons_succ]
  repeat (go_big_quiet_step (fail))
  refine wpQuiet_nil ?_
  refine wpTree_takeL _ _ _ (by rfl) (by rfl) (hc9) ?_
  dsimp only [List.filterMap, List.getElem?_cons_zero, List.getElem?_cons_succ]
  (refine wpQuiet_want' (by rfl) ?_; refine wpQuiet_load_blk (fun w' hw' => hw'.1) (by rfl) _ _ (by rfl) (by rfl) _ Tryd.underlying35 (by rfl) (sizeRun) (by rfl) ?_; simp only [Act.put, List.setIfInBounds_toArray, List.set_cons_zero, List.set_cons_succ])
  refine wpQuiet_nil ?_
  refine wpTree_one _ rfl ?_
  go_wp2_with fail
  have hg2 := gets_any (w := w9) (q := q9) (g := tG 8 2) (g2 := tG 8 2) (d := abD 5 2) (f := none) H9.out.2.1 (by decide) (2, 5, ()) 3 F L 1 cf 1 cl [100] (by decide) pnone none none 0 0 6
    (fun w' hn => ⟨by decide, by decide, by decide, by decide, Reads.nil _ _, Reads.nil _ _⟩)
    (by rw [(abc_get [100]).1, abc_find2]; rfl) (abc_get [100]).2
  rw [e1] at hg2
  unfold runv pairc at hg2
  refine hg2.mono ?_
  rintro e w10 ⟨rfl, hp10⟩
  have hc10 := And.intro (hp10.blk H9.out.2.1 hc9.1 (by decide)) (hp10.blk H9.out.2.1 hc9.2 (by decide))
  obtain ⟨q10, -, -, -, -, hN10, -⟩ := hp10
  have H10 := Lib.hid (H9.out.1.trans (hN10.toBelow (fun x hx => H9.out.2.2 x hx) H9.out.1.size))
  clear hg2 hN10 hc9
  go_wp2_with fail
  refine TreeQ.in_ hc10 ?_
  refine wpTree_pure _ _ _ (by rfl) (by rfl) ?_
  dsimp only [List.filterMap, List.getElem?_cons_zero, List.getElem?_cons_succ]
  repeat (go_big_quiet_step (fail))
  refine wpQuiet_nil ?_
  refine wpTree_done ?_
  clear hc10
  go_wp2_with fail
  go_ret
  exact ⟨rfl, H10.out⟩
end Go.Proofs.YtgkljncigbiffaaDoor

/- The plain seal, reckoned with natural numbers, so that the kernel can reckon it of long bytes. Plain facts. No condition. -/
namespace Go
namespace ShaN
/-- A number reckoned ahead of what uses it. -/
def force {α : Type} (n : Nat) (f : Nat → α) : α := match n with
  | 0 => f 0
  | k + 1 => f (k + 1)
theorem force_eq {α : Type} (n : Nat) (f : Nat → α) : force n f = f n := by cases n <;> rfl
def rot (x n : Nat) : Nat := Nat.lor (Nat.shiftRight x n) (Nat.mod (Nat.shiftLeft x (32 - n)) 4294967296)
def sg0 (x : Nat) : Nat := Nat.xor (Nat.xor (rot x 7) (rot x 18)) (Nat.shiftRight x 3)
def sg1 (x : Nat) : Nat := Nat.xor (Nat.xor (rot x 17) (rot x 19)) (Nat.shiftRight x 10)
def tt1 (k w e f g h : Nat) : Nat := Nat.mod (h + Nat.xor (Nat.xor (rot e 6) (rot e 11)) (rot e 25) + Nat.xor (Nat.land e f) (Nat.land (4294967295 - e) g) + k + w) 4294967296
def tt2 (a b c : Nat) : Nat := Nat.xor (Nat.xor (rot a 2) (rot a 13)) (rot a 22) + Nat.xor (Nat.xor (Nat.land a b) (Nat.land a c)) (Nat.land b c)
def nextN (w0 w1 w9 w14 : Nat) : Nat := Nat.mod (sg1 w14 + w9 + sg0 w1 + w0) 4294967296
/-- Some rounds; 16 words ahead are known. -/
def go : List Nat → List Nat → Nat → Nat → Nat → Nat → Nat → Nat → Nat → Nat → List Nat
  | [], _, a, b, c, d, e, f, g, h => [a, b, c, d, e, f, g, h]
  | k :: ks, ws, a, b, c, d, e, f, g, h =>
    force (ws.getD 0 0) fun w0 =>
    force (tt1 k w0 e f g h) fun t1 =>
    force (Nat.mod (t1 + tt2 a b c) 4294967296) fun a' =>
    force (Nat.mod (d + t1) 4294967296) fun e' =>
    force (nextN w0 (ws.getD 1 0) (ws.getD 9 0) (ws.getD 14 0)) fun wn =>
    go ks (ws.drop 1 ++ [wn]) a' a b c e' e f g
def toL (s : Sha.St) : List Nat := [s.a.toNat, s.b.toNat, s.c.toNat, s.d.toNat, s.e.toNat, s.f.toNat, s.g.toNat, s.h.toNat]
theorem rot_eq (x : UInt32) (n : Nat) (h0 : 0 < n) (h : n < 32) : rot x.toNat n = (Sha.rotr x n).toNat := by
  unfold rot Sha.rotr
  rw [UInt32.toNat_or, u32_shr_nat x n h, u32_shl_nat x (32 - n) (by omega)]
  show Nat.lor (x.toNat >>> n) ((x.toNat <<< (32 - n)) % 4294967296) = _
  rw [Nat.shiftRight_eq_div_pow, Nat.shiftLeft_eq]; rfl
theorem sg0_eq (x : UInt32) : sg0 x.toNat = (Sha.s0 x).toNat := by
  unfold sg0 Sha.s0
  rw [UInt32.toNat_xor, UInt32.toNat_xor, rot_eq x 7 (by omega) (by omega), rot_eq x 18 (by omega) (by omega)]
  have := u32_shr_nat x 3 (by omega)
  rw [show (x >>> (3 : UInt32)) = x >>> UInt32.ofNat 3 from rfl, this]
  show Nat.xor _ (x.toNat >>> 3) = _
  rw [Nat.shiftRight_eq_div_pow]; rfl
theorem sg1_eq (x : UInt32) : sg1 x.toNat = (Sha.s1 x).toNat := by
  unfold sg1 Sha.s1
  rw [UInt32.toNat_xor, UInt32.toNat_xor, rot_eq x 17 (by omega) (by omega), rot_eq x 19 (by omega) (by omega)]
  have := u32_shr_nat x 10 (by omega)
  rw [show (x >>> (10 : UInt32)) = x >>> UInt32.ofNat 10 from rfl, this]
  show Nat.xor _ (x.toNat >>> 10) = _
  rw [Nat.shiftRight_eq_div_pow]; rfl
theorem not_eq (x : UInt32) : 4294967295 - x.toNat = (~~~x).toNat := by
  rw [UInt32.toNat_not]; simp [UInt32.size]
theorem tt1_eq (k w : UInt32) (s : Sha.St) : tt1 k.toNat w.toNat s.e.toNat s.f.toNat s.g.toNat s.h.toNat = (Sha.t1 k w s).toNat := by
  unfold tt1 Sha.t1
  rw [not_eq, rot_eq s.e 6 (by omega) (by omega), rot_eq s.e 11 (by omega) (by omega), rot_eq s.e 25 (by omega) (by omega)]
  simp only [UInt32.toNat_add, UInt32.toNat_xor, UInt32.toNat_and]
  show (_ + (_ ^^^ _ ^^^ _) + ((_ &&& _) ^^^ (_ &&& _)) + _ + _) % 4294967296 = _
  omega
theorem tt2_eq (s : Sha.St) : tt2 s.a.toNat s.b.toNat s.c.toNat % 4294967296 = (Sha.t2 s).toNat := by
  unfold tt2 Sha.t2
  rw [rot_eq s.a 2 (by omega) (by omega), rot_eq s.a 13 (by omega) (by omega), rot_eq s.a 22 (by omega) (by omega)]
  simp only [UInt32.toNat_add, UInt32.toNat_xor, UInt32.toNat_and]
  rfl
theorem next_eq (w0 w1 w9 w14 : UInt32) : nextN w0.toNat w1.toNat w9.toNat w14.toNat = (Sha.s1 w14 + w9 + Sha.s0 w1 + w0).toNat := by
  unfold nextN
  rw [sg1_eq, sg0_eq]
  simp only [UInt32.toNat_add]
  show (_ + _ + _ + _) % 4294967296 = _
  omega
/-- Rounds from t on. -/
theorem go_eq (m : Nat → UInt32) (s : Sha.St) : ∀ (n t : Nat), t + n = 64 →
    go ((Sha.kl.drop t).map (·.toNat)) ((List.range 16).map fun i => (Sha.wd m (t + i)).toNat) (Sha.rounds m s t).a.toNat (Sha.rounds m s t).b.toNat (Sha.rounds m s t).c.toNat (Sha.rounds m s t).d.toNat (Sha.rounds m s t).e.toNat (Sha.rounds m s t).f.toNat (Sha.rounds m s t).g.toNat (Sha.rounds m s t).h.toNat
      = toL (Sha.rounds m s 64)
  | 0, t, h => by
    obtain rfl : t = 64 := by omega
    have : Sha.kl.drop 64 = [] := rfl
    rw [this]; rfl
  | n + 1, t, h => by
    have hk : Sha.kl.drop t = Sha.kt t :: Sha.kl.drop (t + 1) := by
      have hl : t < Sha.kl.length := by show t < 64; omega
      rw [List.drop_eq_getElem_cons hl]
      congr 1
      unfold Sha.kt
      simp [List.getD, hl]
    rw [hk, List.map_cons]
    unfold go
    simp only [force_eq]
    have e0 : ((List.range 16).map fun i => (Sha.wd m (t + i)).toNat).getD 0 0 = (Sha.wd m t).toNat := rfl
    have e1 : ((List.range 16).map fun i => (Sha.wd m (t + i)).toNat).getD 1 0 = (Sha.wd m (t + 1)).toNat := rfl
    have e9 : ((List.range 16).map fun i => (Sha.wd m (t + i)).toNat).getD 9 0 = (Sha.wd m (t + 9)).toNat := rfl
    have e14 : ((List.range 16).map fun i => (Sha.wd m (t + i)).toNat).getD 14 0 = (Sha.wd m (t + 14)).toNat := rfl
    rw [e0, e1, e9, e14, tt1_eq, next_eq]
    have hw : (Sha.s1 (Sha.wd m (t + 14)) + Sha.wd m (t + 9) + Sha.s0 (Sha.wd m (t + 1)) + Sha.wd m t) = Sha.wd m (t + 16) := by
      rw [Sha.wd_hi m (show 16 ≤ t + 16 by omega)]
      rw [show t + 16 - 2 = t + 14 by omega, show t + 16 - 7 = t + 9 by omega, show t + 16 - 15 = t + 1 by omega, show t + 16 - 16 = t by omega]
    rw [hw]
    have hwin : ((List.range 16).map fun i => (Sha.wd m (t + i)).toNat).drop 1 ++ [(Sha.wd m (t + 16)).toNat] = (List.range 16).map fun i => (Sha.wd m (t + 1 + i)).toNat := by
      have : ∀ i, Sha.wd m (t + 1 + i) = Sha.wd m (t + (1 + i)) := fun i => by rw [Nat.add_assoc]
      simp only [this]
      rfl
    rw [hwin]
    have hr : Sha.rounds m s (t + 1) = Sha.round (Sha.kt t) (Sha.wd m t) (Sha.rounds m s t) := rfl
    have ha : ((Sha.t1 (Sha.kt t) (Sha.wd m t) (Sha.rounds m s t)).toNat + tt2 (Sha.rounds m s t).a.toNat (Sha.rounds m s t).b.toNat (Sha.rounds m s t).c.toNat).mod 4294967296 = (Sha.rounds m s (t + 1)).a.toNat := by
      rw [hr]
      show (_ + _) % 4294967296 = (Sha.t1 _ _ _ + Sha.t2 _).toNat
      rw [UInt32.toNat_add, ← tt2_eq]
      omega
    have he : ((Sha.rounds m s t).d.toNat + (Sha.t1 (Sha.kt t) (Sha.wd m t) (Sha.rounds m s t)).toNat).mod 4294967296 = (Sha.rounds m s (t + 1)).e.toNat := by
      rw [hr]
      show (_ + _) % 4294967296 = ((Sha.rounds m s t).d + Sha.t1 _ _ _).toNat
      rw [UInt32.toNat_add]
    rw [ha, he]
    have := go_eq m s n (t + 1) (by omega)
    rw [← this]
    rfl
def beN (a b c d : Nat) : Nat := Nat.lor (Nat.lor (Nat.lor (Nat.mod (Nat.shiftLeft a 24) 4294967296) (Nat.mod (Nat.shiftLeft b 16) 4294967296)) (Nat.mod (Nat.shiftLeft c 8) 4294967296)) d
theorem beN_eq (a b c d : UInt8) : beN a.toNat b.toNat c.toNat d.toNat = (Sha.be a b c d).toNat := by
  unfold beN Sha.be
  have e : ∀ (x : UInt8) (n : Nat), n < 32 → (Nat.shiftLeft x.toNat n).mod 4294967296 = (x.toUInt32 <<< UInt32.ofNat n).toNat := fun x n h => by
    rw [u32_shl_nat _ n h, UInt8.toNat_toUInt32]
    show (x.toNat <<< n) % _ = _
    rw [Nat.shiftLeft_eq]
  rw [UInt32.toNat_or, UInt32.toNat_or, UInt32.toNat_or, UInt8.toNat_toUInt32, e a 24 (by omega), e b 16 (by omega), e c 8 (by omega)]
  rfl
def w4 : List Nat → List Nat
  | a :: b :: c :: d :: r => force (beN a b c d) fun w => w :: w4 r
  | _ => []
theorem w4_eq (l : List UInt8) : ∀ (n at_ : Nat), at_ + 4 * n ≤ l.length → w4 (((l.drop at_).take (4 * n)).map (·.toNat)) = (List.range n).map fun t => (Sha.word l at_ t).toNat
  | 0, at_, _ => by simp [w4]
  | n + 1, at_, h => by
    have e4 : (l.drop at_).take (4 * (n + 1)) = l.getD at_ 0 :: l.getD (at_ + 1) 0 :: l.getD (at_ + 2) 0 :: l.getD (at_ + 3) 0 :: (l.drop (at_ + 4)).take (4 * n) := by
      have hg : ∀ i, i < l.length → l.drop i = l.getD i 0 :: l.drop (i + 1) := fun i hi => by
        rw [List.drop_eq_getElem_cons hi]; congr 1; simp [List.getD, hi]
      rw [hg at_ (by omega), hg (at_ + 1) (by omega), hg (at_ + 1 + 1) (by omega), hg (at_ + 1 + 1 + 1) (by omega)]
      rw [show 4 * (n + 1) = 4 * n + 1 + 1 + 1 + 1 by omega]
      simp only [List.take_succ_cons]
    rw [e4]
    simp only [List.map_cons, w4, force_eq]
    rw [w4_eq l n (at_ + 4) (by omega), beN_eq, List.range_succ_eq_map, List.map_cons, List.map_map]
    have hw0 : Sha.word l at_ 0 = Sha.be (l.getD at_ 0) (l.getD (at_ + 1) 0) (l.getD (at_ + 2) 0) (l.getD (at_ + 3) 0) := rfl
    rw [hw0]
    refine congrArg (List.cons _) ?_
    apply List.map_congr_left
    intro t _
    simp only [Function.comp, Sha.word]
    rw [show at_ + 4 + 4 * t = at_ + 4 * (t + 1) by omega]
def kN : List Nat := [
  0x428a2f98, 0x71374491, 0xb5c0fbcf, 0xe9b5dba5, 0x3956c25b, 0x59f111f1, 0x923f82a4, 0xab1c5ed5,
  0xd807aa98, 0x12835b01, 0x243185be, 0x550c7dc3, 0x72be5d74, 0x80deb1fe, 0x9bdc06a7, 0xc19bf174,
  0xe49b69c1, 0xefbe4786, 0x0fc19dc6, 0x240ca1cc, 0x2de92c6f, 0x4a7484aa, 0x5cb0a9dc, 0x76f988da,
  0x983e5152, 0xa831c66d, 0xb00327c8, 0xbf597fc7, 0xc6e00bf3, 0xd5a79147, 0x06ca6351, 0x14292967,
  0x27b70a85, 0x2e1b2138, 0x4d2c6dfc, 0x53380d13, 0x650a7354, 0x766a0abb, 0x81c2c92e, 0x92722c85,
  0xa2bfe8a1, 0xa81a664b, 0xc24b8b70, 0xc76c51a3, 0xd192e819, 0xd6990624, 0xf40e3585, 0x106aa070,
  0x19a4c116, 0x1e376c08, 0x2748774c, 0x34b0bcb5, 0x391c0cb3, 0x4ed8aa4a, 0x5b9cca4f, 0x682e6ff3,
  0x748f82ee, 0x78a5636f, 0x84c87814, 0x8cc70208, 0x90befffa, 0xa4506ceb, 0xbef9a3f7, 0xc67178f2]
theorem kN_eq : Sha.kl.map (·.toNat) = kN := by decide +kernel
/-- Numbers reckoned ahead of what uses them. -/
def forceL {α : Type} : List Nat → (List Nat → α) → α
  | [], f => f []
  | n :: l, f => force n fun m => forceL l fun r => f (m :: r)
theorem forceL_eq {α : Type} : ∀ (l : List Nat) (f : List Nat → α), forceL l f = f l
  | [], _ => rfl
  | n :: l, f => by simp only [forceL, force_eq, forceL_eq l]
def addL : List Nat → List Nat → List Nat
  | a :: l, b :: m => Nat.mod (a + b) 4294967296 :: addL l m
  | _, _ => []
def blkN (s : List Nat) (bytes : List Nat) : List Nat := match s with
  | [a, b, c, d, e, f, g, h] => addL s (go kN (w4 bytes) a b c d e f g h)
  | _ => []
theorem blkN_eq (s : Sha.St) (l : List UInt8) (at_ : Nat) (h : at_ + 64 ≤ l.length) : blkN (toL s) (((l.drop at_).take 64).map (·.toNat)) = toL (Sha.blk s l at_) := by
  have hw := w4_eq l 16 at_ h
  unfold blkN toL
  simp only []
  rw [show (64 : Nat) = 4 * 16 from rfl, hw]
  have hwd : ((List.range 16).map fun t => (Sha.word l at_ t).toNat) = (List.range 16).map fun i => (Sha.wd (Sha.word l at_) (0 + i)).toNat := by
    apply List.map_congr_left
    intro t ht
    rw [Nat.zero_add, Sha.wd_lo _ (List.mem_range.1 ht)]
  have := go_eq (Sha.word l at_) s 64 0 rfl
  rw [← hwd, List.drop_zero, kN_eq] at this
  have e0 : Sha.rounds (Sha.word l at_) s 0 = s := rfl
  rw [e0] at this
  rw [this]
  unfold Sha.blk Sha.add toL
  simp only [addL, UInt32.toNat_add]
  rfl
def blksN : Nat → List Nat → List Nat → List Nat
  | 0, _, s => s
  | n + 1, l, s => forceL (blkN s (l.take 64)) fun s' => blksN n (l.drop 64) s'
theorem blksN_eq (l : List UInt8) (s : Sha.St) : ∀ (n k : Nat), 64 * (k + n) ≤ l.length → blksN n ((l.drop (64 * k)).map (·.toNat)) (toL (Sha.blks l s k)) = toL (Sha.blks l s (k + n))
  | 0, k, _ => rfl
  | n + 1, k, h => by
    simp only [blksN, forceL_eq]
    rw [← List.map_take, blkN_eq _ _ _ (by omega), ← List.map_drop, List.drop_drop]
    have : toL (Sha.blk (Sha.blks l s k) l (64 * k)) = toL (Sha.blks l s (k + 1)) := rfl
    rw [this, show 64 * k + 64 = 64 * (k + 1) by omega, blksN_eq l s n (k + 1) (by omega)]
    congr 2; omega
def outN (s : List Nat) : List Nat := (List.range 16).map fun k => Nat.mod (Nat.div (s.getD (k / 4) 0) (2 ^ (24 - 8 * (k % 4)))) 256
def initN : List Nat := [0x6a09e667, 0xbb67ae85, 0x3c6ef372, 0xa54ff53a, 0x510e527f, 0x9b05688c, 0x1f83d9ab, 0x5be0cd19]
/-- The seal of bytes. -/
def sumN (l : List Nat) (tl : List Nat) (n : Nat) : List Nat := outN (blksN n (l ++ tl) initN)
theorem sumN_eq (l : List UInt8) (n : Nat) (hn : n = (l.length + Sha.zeros l.length + 9) / 64) : (Sha.sum l).map (·.toNat) = sumN (l.map (·.toNat)) ((Sha.tail l.length).map (·.toNat)) n := by
  unfold sumN Sha.sum
  have hlen : (Sha.pad l).length / 64 = n := by rw [Sha.pad_length, hn]
  rw [hlen]
  have h1 := blksN_eq (Sha.pad l) Sha.init n 0 (by rw [Sha.pad_length]; have := Sha.pad_mod l; rw [Sha.pad_length] at this; omega)
  rw [Nat.mul_zero, List.drop_zero, Nat.zero_add] at h1
  have h0 : toL (Sha.blks (Sha.pad l) Sha.init 0) = initN := by
    show toL Sha.init = initN
    decide +kernel
  rw [h0] at h1
  have hp : (Sha.pad l).map (·.toNat) = l.map (·.toNat) ++ (Sha.tail l.length).map (·.toNat) := by unfold Sha.pad; rw [List.map_append]
  rw [← hp, h1]
  unfold Sha.out outN
  rw [List.map_map]
  apply List.map_congr_left
  intro k hk
  have hk16 := List.mem_range.1 hk
  simp only [Function.comp, Sha.outAt, Sha.byte]
  have hg : (toL (Sha.blks (Sha.pad l) Sha.init n)).getD (k / 4) 0 = (Sha.get (Sha.blks (Sha.pad l) Sha.init n) (k / 4)).toNat := by
    have : k / 4 = 0 ∨ k / 4 = 1 ∨ k / 4 = 2 ∨ k / 4 = 3 := by omega
    rcases this with h | h | h | h <;> rw [h] <;> rfl
  rw [hg]
  exact UInt8.toNat_ofNat_of_lt' (by have := Nat.mod_lt ((Sha.get (Sha.blks (Sha.pad l) Sha.init n) (k / 4)).toNat / 2 ^ (24 - 8 * (k % 4))) (show 0 < 256 by omega); simpa [UInt8.size] using this)
theorem toNat_inj : ∀ {l m : List UInt8}, l.map (·.toNat) = m.map (·.toNat) → l = m
  | [], [], _ => rfl
  | [], _ :: _, h => by cases h
  | _ :: _, [], h => by cases h
  | a :: l, b :: m, h => by
    simp only [List.map_cons, List.cons.injEq] at h
    rw [UInt8.toNat_inj.1 h.1, toNat_inj h.2]
end ShaN
end Go

/- The chapter's table, as it is dropped and a byte of it is turned; many pairs. Plain facts. No condition. -/
namespace Go.Proofs.YtgkljncigbiffaaDoor
open Go.RowKit
/-! ### The chapter's table -/
theorem abc_stands : TOpen (tG 8 2) (abD 5 2) (2, 5, ()) [abcL] [(1, 5, ())] := by
  have hl : (ppack abcL).2.length = 1 := by rw [abc_pack]; rfl
  have h := (table_stands (n := 8) (s := 5) (l := abcL) (N := (Dsk.new (104 + 4 * 8)).N) (d := abD 5 2) (g := tG 8 2) (by rw [abc_pack]) (by rw [hl]; exact abc_puts.2) (by decide) (by decide) (by omega) (by rw [hl]; omega) rfl).1
  rw [hl, show tk 5 1 = ((2 : Int), (5 : Int), ()) from rfl, abc_pack] at h
  exact h
/-- Behind the drop. -/
def kn2 : Grd := ⟨8, [2, 2, 0, 0, 0, 0, 0, 0], []⟩
theorem kn_g : tG 8 2 = ⟨8, [1, 1, 0, 0, 0, 0, 0, 0], []⟩ := by unfold tG; congr 1
theorem kn_drop : tdrop (tG 8 2) (abD 5 2) (2, 5, ()) = (0, kn2) := by
  unfold tdrop
  rw [abc_stands.blocks, if_neg (by simp), kn_g]
  rfl
theorem kn2_stands : TOpen kn2 (abD 5 2) (2, 5, ()) [abcL] [(1, 5, ())] := abc_stands.lw (L := [2, 2, 0, 0, 0, 0, 0, 0]) (W := [])
theorem kn_drop2 : tdrop kn2 (abD 5 2) (2, 5, ()) = (9, kn2) := by
  unfold tdrop
  rw [kn2_stands.blocks, if_neg (by simp)]
  rfl
/-! ### A byte is turned -/
def kb1 : GBT := (1, (1, 5, ()), [], gbody abcL, ())
def kb1Rest : List UInt8 := GB.rest kb1
def kb1Sum : List UInt8 := [221, 32, 72, 57, 71, 59, 53, 139, 218, 43, 1, 193, 245, 64, 65, 132]
def kb1Bad : List UInt8 := [88, 46, 38, 248, 28, 105, 143, 255, 247, 203, 145, 73, 58, 74, 131, 183]
theorem kb1Rest_length : kb1Rest.length = 1008 := by decide +kernel
theorem kb1Sum_eq : Sha.sum kb1Rest = kb1Sum := by
  refine ShaN.toNat_inj ?_
  rw [ShaN.sumN_eq kb1Rest 16 (by decide +kernel), kb1Rest_length]
  decide +kernel
theorem kb1Bad_eq : Sha.sum (kb1Rest.set 44 1) = kb1Bad := by
  refine ShaN.toNat_inj ?_
  have hl : (kb1Rest.set 44 1).length = 1008 := by rw [List.length_set, kb1Rest_length]
  rw [ShaN.sumN_eq (kb1Rest.set 44 1) 16 (by rw [hl]; decide +kernel), hl]
  decide +kernel
theorem kb1_turned : (GB.read (flip (GB.bytes kb1) 60 1)).1 ≠ 0 := by
  have hb : GB.bytes kb1 = kb1Sum ++ kb1Rest := by unfold GB.bytes; rw [show GB.rest kb1 = kb1Rest from rfl, kb1Sum_eq]
  have hz : (kb1Sum ++ kb1Rest).getD 60 0 = 0 := by decide +kernel
  have e : flip (GB.bytes kb1) 60 1 = kb1Sum ++ kb1Rest.set 44 1 := by
    unfold flip
    rw [hb, hz, List.set_append_right _ _ (by decide)]; rfl
  have h1 : (kb1Sum ++ kb1Rest.set 44 1).drop 16 = kb1Rest.set 44 1 := rfl
  have h2 : (kb1Sum ++ kb1Rest.set 44 1).take 16 = kb1Sum := rfl
  have hl : (kb1Sum ++ kb1Rest.set 44 1).length = 1024 := by rw [List.length_append, List.length_set, kb1Rest_length]; rfl
  unfold GB.read
  rw [e, if_neg (by rw [hl]; simp), h1, h2, kb1Bad_eq, if_pos (by decide)]
  decide
theorem kn_tb0 : tb 5 ((ppack abcL).2.map gbody) (kbytes ((ppack abcL).2.map gkey)) 0 = kb1 := by
  rw [abc_pack]; rfl
/-- What is told of the key a then. -/
theorem kn_turn_of {d : Dsk} {N : Nat} (hw : TWr 8 5 ((ppack abcL).2.map gbody) (kbytes ((ppack abcL).2.map gkey)) N 2 d) (hs : topen kn2 d none (2, 5, ()) = (0, ([(1, 5, ())], [[97]]), kn2)) : ∃ d', d.turn 104 60 1 = (0, d') ∧ d'.N = d.N ∧ topen kn2 d' none (2, 5, ()) = (0, ([(1, 5, ())], [[97]]), kn2) ∧ tget kn2 d' none (2, 5, ()) [97] = (13, pnone, ⟨8, [2, 2, 0, 0, 0, 0, 0, 0], [(1, 5, ())]⟩) := by
  obtain ⟨d', e1, e2, e3, e4, e5⟩ := gturn hw.rm (a := 1) (by omega) (by omega) (i := 60) (by omega) 1
  have h1 := hw.blk 0 (by omega)
  rw [kn_tb0, show ((0 : Nat) : Int) + 1 = 1 from rfl] at h1
  rw [h1] at e4
  have t1 : gthere d' (1, 5, ()) = none := gthere_bad (by rw [show (((1 : Int), (5 : Int), ()) : RefT).1 = 1 from rfl, e4]; exact kb1_turned)
  have h2 := e5 2 (by omega) (by omega) (by omega)
  have t2 : gthere d' (2, 5, ()) = gthere d (2, 5, ()) := by
    unfold gthere
    rw [show (((2 : Int), (5 : Int), ()) : RefT).1 = 2 from rfl, h2]
  have hl2 : glook kn2 d' none (2, 5, ()) = glook kn2 d none (2, 5, ()) := by
    unfold glook
    rw [t2]
    unfold Dsk.isOut
    rw [e2.out, hw.rm.out]
  have ho : topen kn2 d' none (2, 5, ()) = (0, ([(1, 5, ())], [[97]]), kn2) := by
    unfold topen at hs ⊢
    rw [hl2]
    exact hs
  refine ⟨d', e1, e3, ho, ?_⟩
  have hg1 : glook kn2 d' none (1, 5, ()) = (13, none, ⟨8, [2, 2, 0, 0, 0, 0, 0, 0], [(1, 5, ())]⟩) := by
    unfold glook
    rw [if_neg (by unfold Dsk.isOut; rw [e2.out]; simp), if_neg (by decide), t1]
    rfl
  unfold tget
  rw [ho]
  simp only
  rw [if_neg (by simp), if_neg (by decide), show [((1 : Int), (5 : Int), ())].getD (kbef [[97]] [97] - 1) (0, 0, ()) = (1, 5, ()) by decide, tdata_none (by rw [hg1]), hg1]
  rfl
theorem kn_turn : ∃ d', (abD 5 2).turn 104 60 1 = (0, d') ∧ d'.N = (abD 5 2).N ∧ topen kn2 d' none (2, 5, ()) = (0, ([(1, 5, ())], [[97]]), kn2) ∧ tget kn2 d' none (2, 5, ()) [97] = (13, pnone, ⟨8, [2, 2, 0, 0, 0, 0, 0, 0], [(1, 5, ())]⟩) :=
  kn_turn_of abc_puts.2 (kn2_stands.op.trans (by rfl))
theorem kn_mono {d : Dsk} (h : topen kn2 d none (2, 5, ()) = (0, ([(1, 5, ())], [[97]]), kn2)) (key : List UInt8) : ∀ a b : Nat, a ≤ b → b < (topen kn2 d none (2, 5, ())).2.1.2.length → key < (topen kn2 d none (2, 5, ())).2.1.2.getD a [] → key < (topen kn2 d none (2, 5, ())).2.1.2.getD b [] := fun a b hab hb hk => by
  rw [h] at hb hk ⊢
  have hb' : b < 1 := hb
  have : a = b := by omega
  subst this
  exact hk
/-! ### Pairs that may not be, and too many -/
theorem pack_nil : (ppack []).1 = 2 := by decide
theorem pack_ba : (ppack [([98], [], true, ()), ([97], [49], false, ())]).1 = 2 := by kernel_rfl
def bigP (i : Nat) : PairT := (UInt8.ofNat i :: List.replicate 31 0, List.replicate 128 0, false, ())
def bigL (n : Nat) : List PairT := (List.range n).map bigP
theorem big_bytes (i : Nat) : (pbytes (bigP i)).length = 162 := by rw [pbytes_length]; simp [bigP]
/-- Pairs of so many bytes each: five to a block. -/
theorem five_each {l : List PairT} (h : ∀ p ∈ l, (pbytes p).length = 162) : ∀ k, k ≤ l.length → ((l.take k).foldl padd []).length = (k + 4) / 5 ∧ ∀ g, ((l.take k).foldl padd []).getLast? = some g → (gbody g).length = 162 * (k - 5 * ((k + 4) / 5 - 1)) := fun k => by
  induction k with
  | zero => exact fun _ => ⟨rfl, fun g hg => by cases hg⟩
  | succ k ih =>
    intro hk
    obtain ⟨h1, h2⟩ := ih (by omega)
    have hp := h l[k] (List.getElem_mem (by omega))
    rw [List.take_succ_eq_append_getElem (by omega), List.foldl_append, List.foldl_cons, List.foldl_nil]
    generalize (l.take k).foldl padd [] = G at h1 h2
    generalize l[k] = p at hp
    unfold padd
    cases hg : G.getLast? with
    | none =>
      have hG : G = [] := by simpa using hg
      subst hG
      have hk0 : k = 0 := by rw [List.length_nil] at h1; omega
      subst hk0
      refine ⟨rfl, fun g hg => ?_⟩
      have : g = [p] := by simpa using hg.symm
      rw [this, gbody_one, hp]
    | some g =>
      have hs := getLast_split hg
      have hlen := h2 g hg
      have hG1 : G.length = G.dropLast.length + 1 := by
        have := congrArg List.length hs
        rw [List.length_append, List.length_singleton] at this
        exact this
      simp only
      split
      · rename_i hbig
        rw [hp, hlen] at hbig
        refine ⟨by rw [List.length_append, List.length_singleton, h1]; omega, fun g' hg' => ?_⟩
        have : g' = [p] := by simpa using hg'.symm
        rw [this, gbody_one, hp]
        omega
      · rename_i hbig
        rw [hp, hlen] at hbig
        refine ⟨by rw [List.length_append, List.length_singleton, ← hG1, h1]; omega, fun g' hg' => ?_⟩
        have : g' = g ++ [p] := by simpa using hg'.symm
        rw [this, gbody_append, gbody_one, List.length_append, hp, hlen]
        omega
theorem big_sorted : psorted (bigL 64) = true := (psorted_iff _).2 fun i hi => by
  have hl : (bigL 64).length = 64 := by unfold bigL; rw [List.length_map, List.length_range]
  have e : ∀ (j : Nat) (hj : j < (bigL 64).length), (bigL 64)[j] = bigP j := fun j hj => by simp [bigL]
  rw [e i (by omega), e (i + 1) hi]
  refine List.Lex.rel ?_
  rw [UInt8.lt_iff_toNat_lt, ofNat_toNat (by omega), ofNat_toNat (by omega)]
  omega
theorem big_pack : (ppack (bigL 64)).1 = 0 ∧ (ppack (bigL 64)).2.length = 13 := by
  have hl : (bigL 64).length = 64 := by unfold bigL; rw [List.length_map, List.length_range]
  have hall : (bigL 64).all pok = true := List.all_eq_true.2 fun p hp => by
    obtain ⟨i, -, rfl⟩ := List.mem_map.1 hp
    simp [pok, bigP]
  have h5 := (five_each (l := bigL 64) (fun p hp => by obtain ⟨i, -, rfl⟩ := List.mem_map.1 hp; exact big_bytes i) 64 (by omega)).1
  rw [List.take_of_length_le (by omega)] at h5
  have hs := big_sorted
  generalize bigL 64 = L at hl hall h5 hs ⊢
  have hn : ¬ (L = [] ∨ 64 < L.length ∨ psorted L = false ∨ L.all pok = false) := by
    rw [hl, hs, hall]
    rintro (h | h | h | h)
    · rw [h] at hl; cases hl
    · omega
    · cases h
    · cases h
  unfold ppack
  rw [if_neg hn]
  exact ⟨rfl, h5⟩
theorem kn_full : cnts kn2.L 0 < (ppack (bigL 64)).2.length + 1 := by rw [big_pack.2]; decide
theorem kn_some : abcL.filter (inside [98] [99]) = [([98], [], true, ())] := by kernel_rfl
theorem kn_find : pfind abcL [98] = some ([98], [], true, ()) := by kernel_rfl
theorem kn_get : tget (tG 8 2) (abD 5 2) none (2, 5, ()) [98] = (0, ([98], [], true, ()), tG 8 2) := by
  rw [abc_stands.get, show [abcL].flatten = abcL by kernel_rfl, kn_find]
  rfl
end Go.Proofs.YtgkljncigbiffaaDoor

/- Many pairs are made: the law's big. No condition. -/
namespace Go.Proofs.YtgkljncigbiffaaDoor
open Go.RowKit
def BgRel (w : World) (v1 v2 : Value) (wr : World) : Prop := ∃ (k : Nat) (rows sp : List Value), k ≤ 64 ∧ v2 = .int .i64 (k : Int) ∧ PairsU wr w.heap.size v1 (bigL k) rows sp ∧ Below w.heap.size w wr
theorem bigL_succ (k : Nat) : bigL (k + 1) = bigL k ++ [bigP k] := by unfold bigL; rw [List.range_succ, List.map_append]; rfl
theorem bigL_length (k : Nat) : (bigL k).length = k := by unfold bigL; rw [List.length_map, List.length_range]
set_option maxRecDepth 100000 in
set_option maxHeartbeats 2000000 in
theorem big_any (w : World) : Calls Tryd.prog 32 #[] w fun e w' => ∃ (A : Option Addr) (c : Nat), e = .returned (.slice A 64 c) ∧ Pairs w' A (bigL 64) ∧ Below w.heap.size w w' := by
  go_enter Tryd.func32, Tryd.ntmps32
  go_wp2
  go_loopw [1, 2] (fun v1 v2 wr => BgRel w v1 v2 wr) (fun _ v2 _ => 64 - (intOf v2).toNat)
  case atStart => exact ⟨0, [], [], by omega, rfl, PairsU.nil _ _, Below.refl _ _⟩
  case round =>
    obtain ⟨k, rows, sp, hk, rfl, hU, hB⟩ := hrel
    by_cases hlt : k < 64
    case neg =>
      obtain rfl : k = 64 := by omega
      obtain ⟨A, c, hv, -, -, hP, -⟩ := hU.pairs
      have HF := Lib.hid (And.intro hv (And.intro hP hB))
      clear hU hv hP hB hk hlt
      go_wp2
      go_ret
      exact ⟨A, c, by rw [bigL_length] at HF; exact congrArg Ending.returned HF.out.1, HF.out.2.1, HF.out.2.2⟩
    obtain ⟨A5, c5, hv, -⟩ := hU.pairs
    rw [bigL_length] at hv
    subst hv
    have kd : decide ((k : Int) < 64) = true := decide_eq_true (by omega)
    have HU := Lib.hid (And.intro hU hB)
    have HW := Lib.hid hB.size
    clear hU hB hk
    go_wp2_with (first
      | ((with_reducible show wpList _ _ _ ((⟨some 8, _, _, _, _, _⟩ : Oper) :: _) _ _); refine wpList_make_bytes (o := ⟨some 8, _, _, _, _, _⟩) _ (by rfl) _ _ _ (by rfl) _ Tryd.underlying22 u8info .i64 .i64 _ _ (32) (32) (by rfl) (by rfl) (by first | rfl | omega) (by first | rfl | omega) (by omega) (by omega) ?_; intro w5 h5 hb5 hs5; have d5 := h5.at_ 0 (v := .int .u8 0) rfl; have f5 := h5.frozen 0; clear hs5; refine stopped ?_)
      | fail)
    refine Stopped.mk ?_
    have H5 := Lib.hid (And.intro h5 hb5)
    clear h5 hb5
    go_wp2_with (first
      | ((with_reducible show wpList _ _ _ ((⟨some 15, _, _, _, _, _⟩ : Oper) :: _) _ _); refine wpList_make_bytes (o := ⟨some 15, _, _, _, _, _⟩) _ (by rfl) _ _ _ (by rfl) _ Tryd.underlying22 u8info .i64 .i64 _ _ (128) (128) (by rfl) (by rfl) (by first | rfl | omega) (by first | rfl | omega) (by omega) (by omega) ?_; intro w6 h6 hb6 hs6; clear hs6; refine stopped ?_)
      | fail)
    refine Stopped.mk ?_
    have hu : Upd wr.heap.size w5 (w5.setCell ⟨wr.heap.size, 0, none⟩ (.int .u8 (k : Int))) := (Upd.refl _ _).set 0 _
    have hk5 := H5.out.1.set_ 0 (.int .u8 (k : Int))
    rw [show (((List.replicate 32 0).map u8v).toArray).setIfInBounds 0 (.int .u8 (k : Int)) = ((UInt8.ofNat k :: List.replicate 31 0).map u8v).toArray by rw [List.map_cons, u8_of (by omega)]; rfl] at hk5
    have hs5 : (w5.setCell ⟨wr.heap.size, 0, none⟩ (.int .u8 (k : Int))).heap.size = w5.heap.size := by simp
    have hbA := H5.out.2.upd hu (Nat.le_refl _)
    rw [hs5] at h6
    have hkv : wr.heap.size < w5.heap.size := H5.out.1.lt
    have hb06 := hbA.trans (hb6.mono hbA.size)
    have hk6 := hk5.below hb6 hk5.lt
    have hU6 := HU.out.1.below hb06
    have hB6 := HU.out.2.trans (hb06.mono HU.out.2.size)
    have ok6 : OwnB 5 w6 w.heap.size (.slice (some ⟨wr.heap.size, 0, none⟩) 32 32) (bigP k).1 [] := .inr ⟨wr.heap.size, 32, rfl, HW.out, by rw [List.map_nil, List.append_nil]; exact hk6, Nat.le_refl _, by simp [maxLen], rfl, rfl⟩
    have ov6 : OwnB 5 w6 w.heap.size (.slice (some ⟨w5.heap.size, 0, none⟩) 128 128) (bigP k).2.1 [] := .inr ⟨w5.heap.size, 128, rfl, Nat.le_trans HW.out (Nat.le_of_lt hkv), by rw [List.map_nil, List.append_nil]; exact h6, Nat.le_refl _, by simp [maxLen], by rw [List.length_map]; exact (List.length_replicate).trans (by rw [show (bigP k).2.1.length = 128 from List.length_replicate]), rfl⟩
    generalize wr.heap.size = kb at ok6 hu hkv ⊢
    generalize w5.heap.size = vb at ov6 hkv ⊢
    have hbl := (Below.refl w6.heap.size w6).alloc (Nat.le_refl _) (.cells #[.slice (some ⟨kb, 0, none⟩) 32 32, .slice (some ⟨vb, 0, none⟩) 128 128, .bool false] 40)
    have hra : Reads (w6.alloc (.cells #[.slice (some ⟨kb, 0, none⟩) 32 32, .slice (some ⟨vb, 0, none⟩) 128 128, .bool false] 40)) (some ⟨w6.heap.size, 0, none⟩) [.slice (some ⟨kb, 0, none⟩) 32 32, .slice (some ⟨vb, 0, none⟩) 128 128, .bool false] := reads_new w6 40 _
    have hoa := OwnsC.ownBelow hU6.own hbl
    rw [bigL_length] at hoa
    have H6 := Lib.hid (And.intro hU6 (And.intro ok6 (And.intro ov6 (And.intro hbl (And.intro hra (And.intro hoa hB6))))))
    clear hu hk5 hs5 hbA h6 hkv hb06 hk6 hU6 hB6 ok6 ov6 hbl hra hoa hb6 d5 f5 H5 HU
    go_wp2_with (first
      | ((with_reducible show wpList _ _ _ ((⟨some 18, _, _, _, _, _⟩ : Oper) :: _) _ _); refine wpList_append_vals (o := ⟨some 18, _, _, _, _, _⟩) (by rfl) _ _ _ (by rfl) w.heap.size 40 (.agg #[.slice none 0 0, .slice none 0 0, .bool false]) 3 56 Tryd.underlying41 infoPair (by rfl) (by omega) (.slice A5 k c5) k rows sp (by rfl) H6.out.2.2.2.2.2.1 (some ⟨w6.heap.size, 0, none⟩) 1 1 [.slice (some ⟨kb, 0, none⟩) 32 32, .slice (some ⟨vb, 0, none⟩) 128 128, .bool false] (by rfl) (by rfl) H6.out.2.2.2.2.1 (by simp [Value.oneCell']) (by simp only [maxLen]; omega) (by omega) (Nat.le_trans H6.out.2.2.2.2.2.2.size (by simp)) ?_; intro v4 W8 sp4 ho4 hg4 hv4 hn4; refine stopped ?_)
      | fail)
    refine Stopped.mk ?_
    have hn8 : Near (Value.slice A5 k c5).ownBlock.toList (w6.alloc (.cells #[.slice (some ⟨kb, 0, none⟩) 32 32, .slice (some ⟨vb, 0, none⟩) 128 128, .bool false] 40)) W8 := Near.grown hg4 (fun y hy => Option.mem_toList.2 hy)
    have hadd := (H6.out.1.below H6.out.2.2.2.1).add (p := bigP k) (OwnsC.ownBelow H6.out.2.1 H6.out.2.2.2.1) (OwnsC.ownBelow H6.out.2.2.1 H6.out.2.2.2.1) hn8 (by rw [bigL_length]; exact ho4)
    rw [← bigL_succ] at hadd
    have hbz := H6.out.2.2.2.2.2.2.alloc H6.out.2.2.2.2.2.2.size (.cells #[.slice (some ⟨kb, 0, none⟩) 32 32, .slice (some ⟨vb, 0, none⟩) 128 128, .bool false] 40)
    have hbw := hbz.trans (hn8.toBelow (fun x hx => (OwnsC.lt H6.out.2.2.2.2.2.1 x (Option.mem_toList.1 hx)).1) hbz.size)
    have HF := Lib.hid (show BgRel w v4 (.int .i64 ((k + 1 : Nat) : Int)) W8 from ⟨k + 1, _, sp4, by omega, rfl, hadd, hbw⟩)
    clear ho4 hg4 hv4 hn4 hn8 hadd hbz hbw H6
    go_wp2_with fail
    go_roundw
    case rel => exact HF.out
    case measure => exact meas_up (i := k) (m := 64) rfl rfl hlt
end Go.Proofs.YtgkljncigbiffaaDoor

/- The chapter's pairs, one by one: what abc answers. Plain facts of this program. No condition. -/
namespace Go.Proofs.YtgkljncigbiffaaDoor
open Go.RowKit
/-- A pair of the chapter's, where it lies. -/
theorem abc_at {w w' : World} {e : Ending} (h : AbcTold w e w') : ∃ b : Nat, e = .returned (.slice (some ⟨b, 0, none⟩) 3 3) ∧ Pairs w' (some ⟨b, 0, none⟩) abcL ∧ (∀ X : List Nat, (∀ x ∈ X, x < w.heap.size) → PairsX X w' (some ⟨b, 0, none⟩) abcL) ∧ Below w.heap.size w w' ∧
    ∀ i, (hi : i < abcL.length) → ∃ (a : Addr) (c : Nat) (A2 : Option Addr) (c2 : Nat), w'.rangeAt b (i * 3) [.slice (some a) abcL[i].1.length c, .slice A2 abcL[i].2.1.length c2, .bool abcL[i].2.2.1] ∧ PairAt w' abcL[i] (some a) c A2 c2 ∧ w.heap.size ≤ a.block ∧ a.block < w'.heap.size ∧ w.heap.size ≤ b := by
  obtain ⟨b, rfl, hP, hX, hB, -⟩ := h
  refine ⟨b, rfl, hP, hX, hB, fun i hi => ?_⟩
  have hi3 : i < 3 := hi
  have hne : 1 ≤ abcL[i].1.length := by
    have : ∀ j : Fin 3, 1 ≤ (abcL[j.1]'(j.2)).1.length := by decide
    exact this ⟨i, hi3⟩
  obtain ⟨b1, off1, e1, hlt, hc⟩ := hP (by decide)
  injection e1 with e1
  injection e1 with e11 e12
  subst e11 e12
  obtain ⟨A1, c1, A2, c2, k1, k2, k3, k4⟩ := hc i hi
  obtain ⟨b2, off2, a, c, e2, hbx, h1, -, -, h4, h5⟩ := hX (List.range w.heap.size) (fun x hx => List.mem_range.1 hx) i hi hne
  injection e2 with e2
  injection e2 with e21 e22
  subst e21 e22
  rw [k1] at h1
  injection h1 with h1
  injection h1 with h11 h12 h13
  subst h11 h13
  refine ⟨a, c1, A2, c2, range3 (by rw [Nat.zero_add] at k1; exact k1) (by rw [Nat.zero_add] at k2; exact k2) (by rw [Nat.zero_add] at k3; exact k3), k4, Nat.le_of_not_lt (fun hlt => h5 (List.mem_range.2 hlt)), ?_, Nat.le_of_not_lt (fun hlt => hbx (List.mem_range.2 hlt))⟩
  obtain ⟨b3, off3, e3, hc3⟩ := k4.k (by intro e; have := congrArg List.length e; rw [List.length_map] at this; have h0 : abcL[i].1.length = 0 := this; omega)
  injection e3 with e3
  subst e3
  exact World.block_lt_of_cell? w' _ (hc3 0 _ (List.getElem?_eq_getElem (by rw [List.length_map]; omega)))
theorem rangeAt_upd {w w' : World} {b off x : Nat} {l : List Value} (h : w.rangeAt b off l) (u : Upd x w w') (hne : b ≠ x) : w'.rangeAt b off l := fun j v hv => by
  have h1 := h j v hv
  unfold World.cell? at h1 ⊢
  rw [u.block b hne]
  exact h1
theorem rangeAt_lt {w : World} {b off : Nat} {v : Value} {l : List Value} (h : w.rangeAt b off (v :: l)) : b < w.heap.size := World.block_lt_of_cell? w _ (h 0 v rfl)
/-- Two pairs, in a list that has just been made. -/
theorem pairs_two {w : World} {g : Nat} {t : TypeId} {p q : PairT} {A B A' B' : Option Addr} {c e c' e' : Nat} (hb : Blk w g t #[.slice A p.1.length c, .slice B p.2.1.length e, .bool p.2.2.1, .slice A' q.1.length c', .slice B' q.2.1.length e', .bool q.2.2.1]) (hp : PairAt w p A c B e) (hq : PairAt w q A' c' B' e') : Pairs w (some ⟨g, 0, none⟩) [p, q] := fun _ => by
  refine ⟨g, 0, rfl, hb.lt, fun i hi => ?_⟩
  have h2 : i = 0 ∨ i = 1 := by simp only [List.length_cons, List.length_nil] at hi; omega
  rcases h2 with rfl | rfl
  · exact ⟨A, c, B, e, hb.at_ 0 rfl, hb.at_ 1 rfl, hb.at_ 2 rfl, hp⟩
  · exact ⟨A', c', B', e', hb.at_ 3 rfl, hb.at_ 4 rfl, hb.at_ 5 rfl, hq⟩
end Go.Proofs.YtgkljncigbiffaaDoor
