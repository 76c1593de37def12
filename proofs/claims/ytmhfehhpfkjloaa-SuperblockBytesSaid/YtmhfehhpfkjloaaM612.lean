/- DiskFuse: disks that share a fuse; the parts of its walk. Conditions: the disks are apart. -/
import Derived.Test.YtmhfehhpfkjloaaM611
import Derived.Laws.StructEq
import Derived.RangeFuncWrites
import Derived.RangeFuncBound
import Derived.RangeFuncCalls
import Derived.RangeFuncLeaves
import Derived.WalkKit
import Derived.OwnWalkIn
import Derived.TacticsInMore
import Derived.LoopNIn
import Derived.LoopIn
namespace Go
open Go.RowKit
section
variable {P : Program} {w : World}
theorem wpList_append_vals {ops : Array Oper} {rest : List Oper} {o : Oper} {a : Act} {Q : Exit → Act → World → Prop} (hgd : o.guard = none) (s x : Operand) (t : TypeId)
    (ho : o.op = .call { callee := .builtin .append, args := #[s, x], argTypes := #[t, t] })
    (base : Nat) (e : TypeId) (z : Value) (size bytes : Nat) (ht : P.underlying t = some (.slice e)) (hi : (P.info? e).map (fun i => (i.zero, i.size, i.bytes)) = some (some z, size, bytes)) (hzs : z.cells.size = size) (hsz : 0 < size)
    (v : Value) (n : Nat) (xs sp : List Value) (hs : a.eval s = v) (hown : OwnsC e size w base v n xs sp)
    (A : Option Addr) (m c : Nat) (news : List Value) (hx : a.eval x = .slice A m c) (hl : news.length = m * size) (hr : Reads w A news) (h1 : ∀ u ∈ news, u.oneCell' = true)
    (h63 : n + m ≤ maxLen) (hbytes : (n + m) * bytes ≤ 140737488355328) (hbase : base ≤ w.heap.size)
    (h : ∀ v' w' sp', OwnsC e size w' base v' (n + m) (xs ++ news) sp' → w.grownBy w' v.ownBlock → (v'.ownBlock = v.ownBlock ∨ v'.ownBlock = some w.heap.size) → (v' = .slice none 0 0 ↔ v = .slice none 0 0 ∧ m = 0) → wpList P ops Q rest (a.put o.dst v') w') : wpList P ops Q (o :: rest) a w :=
  wpList_plain hgd fun _ hK => wp_append_all s x t ho base e z size bytes ht hi hzs hsz v n xs sp hs hown A m c news hx hl hr h1 h63 hbytes hbase fun v' w' sp' h1 h2 h3 _ h5 => hK _ _ (h v' w' sp' h1 h2 h3 h5)
end
/-- A fuse of n changes, behind i tries. -/
def fz (n : Int) (i : Nat) : Fus := ⟨if (i : Int) ≤ n then n - i else 0, decide (n < i)⟩
theorem fz_write {d : Dsk} (ho : d.out = false) (hN : d.N = 2) {n : Int} (hn : 0 ≤ n ∧ n ≤ 9223372036854775807) (i : Nat) :
    d.write (some (fz n i)) 0 (rep 1) = if (i : Int) < n then (0, d.tick.put 0 (rep 1), some (fz n (i + 1))) else (11, d, some (fz n (i + 1))) := by
  by_cases h1 : n < i
  · have e1 : fz n (i + 1) = fz n i := by
      unfold fz
      rw [if_neg (by omega), if_neg (by omega), decide_eq_true h1, decide_eq_true (by omega)]
    unfold Dsk.write
    rw [if_pos (by unfold Dsk.isOut fz; simp [ho, h1]), if_neg (by omega), e1]
  · unfold Dsk.write
    rw [if_neg (by unfold Dsk.isOut fz; simp [ho]; omega), if_neg (by rw [List.length_replicate]; omega), if_neg (by rw [List.length_replicate, hN]; omega)]
    by_cases h2 : (i : Int) < n
    · rw [if_pos h2, chg_some _ _ (by unfold fz; rw [if_pos (by omega)]; show n - (i : Int) ≠ 0; omega)]
      have e1 : fz n (i + 1) = { fz n i with left := wrap64 ((fz n i).left - 1) } := by
        unfold fz
        rw [if_pos (by omega), if_pos (by omega), decide_eq_false (by omega), decide_eq_false (by omega)]
        show (⟨n - ((i + 1 : Nat) : Int), false⟩ : Fus) = ⟨wrap64 (n - i - 1), false⟩
        rw [show wrap64 (n - i - 1) = n - ((i + 1 : Nat) : Int) by unfold wrap64; omega]
      rw [e1]
      rfl
    · have e0 : n = (i : Int) := by omega
      rw [if_neg h2]
      have e1 : (fz n i).left = 0 := by unfold fz; rw [if_pos (by omega)]; show n - (i : Int) = 0; omega
      have e2 : fz n (i + 1) = { fz n i with gone := true } := by
        unfold fz
        rw [if_neg (by omega), if_pos (by omega), decide_eq_true (by omega)]
        show (⟨0, true⟩ : Fus) = ⟨n - i, true⟩
        rw [show n - (i : Int) = 0 by omega]
      rw [e2]
      exact if_pos e1
/-- All changes of disks. -/
def sumOps {α : Type} : List (α × Dsk) → Int
  | [] => 0
  | x :: l => x.2.ops + sumOps l
theorem sumOps_set {α : Type} : ∀ (l : List (α × Dsk)) (k : Nat) (x y : α × Dsk), l[k]? = some x → sumOps (l.set k y) = sumOps l - x.2.ops + y.2.ops
  | [], k, x, y, h => by cases h
  | a :: l, 0, x, y, h => by
    injection h with h
    subst h
    show y.2.ops + sumOps l = a.2.ops + sumOps l - a.2.ops + y.2.ops
    omega
  | a :: l, k + 1, x, y, h => by
    have ih := sumOps_set l k x y h
    show a.2.ops + sumOps (l.set k y) = a.2.ops + sumOps l - x.2.ops + y.2.ops
    omega
theorem sumOps_take {α : Type} (l : List (α × Dsk)) (k : Nat) (x : α × Dsk) (h : l[k]? = some x) : sumOps (l.take (k + 1)) = sumOps (l.take k) + x.2.ops := by
  induction l generalizing k with
  | nil => cases h
  | cons a l ih =>
    cases k with
    | zero => injection h with h; subst h; show a.2.ops + 0 = 0 + a.2.ops; omega
    | succ k => show a.2.ops + sumOps (l.take (k + 1)) = a.2.ops + sumOps (l.take k) + x.2.ops; rw [ih k h]; omega
end Go
namespace Go.Proofs.Ytmhfehhpfkjloaa
open Go.RowKit
/-- Two disks lie apart. -/
def Pl.apart (a b : Pl) : Prop := a.gd ≠ b.gd ∧ a.gl ≠ b.gl ∧ a.gm ≠ b.gm
theorem Pl.apart.symm {a b : Pl} (h : a.apart b) : b.apart a := ⟨h.1.symm, h.2.1.symm, h.2.2.symm⟩
section
variable {w w' : World} {a b p : Pl} {gf gf' : Option Nat} {d d' : Dsk} {f : Option Fus}
theorem DskR.cross (h : DskR w a gf d) (h' : DskR w b gf' d') (hab : a.apart b) : a.gd ∉ [b.gd, b.gl, b.gm] ∧ a.gl ∉ [b.gd, b.gl, b.gm] ∧ a.gm ∉ [b.gd, b.gl, b.gm] := by
  obtain ⟨es, c, ⟨h1, h2, h3⟩, _⟩ := h
  obtain ⟨es', c', ⟨k1, k2, k3⟩, _⟩ := h'
  simp only [List.mem_cons, List.not_mem_nil, or_false, not_or]
  exact ⟨⟨hab.1, h1.apart k2 (by decide), h1.offMap k3⟩, ⟨h2.apart k1 (by decide), hab.2.1, h2.offMap k3⟩, ⟨fun e => (k1.offMap h3) e.symm, fun e => (k2.offMap h3) e.symm, hab.2.2⟩⟩
theorem DskR.crossF {g : Nat} (h : DskR w a gf d) (h' : DskR w b gf' d') (hf : FusR w (some g) f) (hab : a.apart b) : a.gd ∉ b.all (some g) ∧ a.gl ∉ b.all (some g) ∧ a.gm ∉ b.all (some g) := by
  have h1 := h.cross h' hab
  obtain ⟨es, c, ⟨k1, k2, k3⟩, _⟩ := h
  obtain ⟨x, _, hx⟩ := hf.has
  have hx : Blk w g _ _ := hx
  have e1 : a.gd ≠ g := k1.apart hx (by decide)
  have e2 : a.gl ≠ g := k2.apart hx (by decide)
  have e3 : a.gm ≠ g := fun e => (hx.offMap k3) e.symm
  simp [Pl.all] at h1 ⊢
  exact ⟨⟨h1.1.1, h1.1.2.1, h1.1.2.2, e1⟩, ⟨h1.2.1.1, h1.2.1.2.1, h1.2.1.2.2, e2⟩, ⟨h1.2.2.1, h1.2.2.2.1, h1.2.2.2.2, e3⟩⟩
/-- A block of another type is none of a disk's. -/
theorem DskR.blk {g : Nat} {t : TypeId} {cs : Array Value} {gg : Nat} (h : DskR w a gf d) (hf : FusR w (some gg) f) (hb : Blk w g t cs) (ht : t ≠ 32 ∧ t ≠ 113 ∧ t ≠ 121) : g ∉ a.all (some gg) := by
  obtain ⟨es, c, ⟨k1, k2, k3⟩, _⟩ := h
  obtain ⟨x, _, hx⟩ := hf.has
  have hx : Blk w gg _ _ := hx
  simp [Pl.all]
  exact ⟨hb.apart k1 ht.1, hb.apart k2 ht.2.1, hb.offMap k3, hb.apart hx ht.2.2⟩
/-- Disks that share a fuse. -/
def AllR (w : World) (g : Nat) (f : Fus) (l : List (Pl × Dsk)) : Prop := (∀ x ∈ l, DskR w x.1 (some g) x.2) ∧ FusR w (some g) (some f)
theorem AllR.near {g : Nat} {f : Fus} {l : List (Pl × Dsk)} (h : AllR w g f l) (hn : Near [] w w') : AllR w' g f l := ⟨fun x hx => (h.1 x hx).near hn (by simp), h.2.near hn (by simp)⟩
theorem AllR.step {g : Nat} {f f' : Fus} {l : List (Pl × Dsk)} {k : Nat} {x : Pl × Dsk} {d' : Dsk} (h : AllR w g f l) (hp : (l.map (·.1)).Pairwise Pl.apart) (hk : l[k]? = some x) (hd : DskR w' x.1 (some g) d') (hf : FusR w' (some g) (some f')) (hn : Near (x.1.all (some g)) w w') : AllR w' g f' (l.set k (x.1, d')) := by
  refine ⟨fun y hy => ?_, hf⟩
  obtain ⟨i, hi, rfl⟩ := List.getElem_of_mem hy
  rw [List.getElem_set]
  split
  · exact hd
  · rename_i hne
    rw [List.length_set] at hi
    have hx := List.mem_of_getElem? hk
    have hki : k < l.length := (List.getElem?_eq_some_iff.1 hk).1
    have hxe : l[k] = x := (List.getElem?_eq_some_iff.1 hk).2
    have hab : (l[i]).1.apart x.1 := by
      have h1 := List.pairwise_iff_getElem.1 hp
      rcases Nat.lt_or_ge i k with h2 | h2
      · have h3 := h1 i k (by rw [List.length_map]; exact hi) (by rw [List.length_map]; exact hki) h2
        rw [List.getElem_map, List.getElem_map, hxe] at h3
        exact h3
      · have h3 := h1 k i (by rw [List.length_map]; exact hki) (by rw [List.length_map]; exact hi) (by omega)
        rw [List.getElem_map, List.getElem_map, hxe] at h3
        exact h3.symm
    have hy2 := h.1 _ (List.getElem_mem hi)
    exact hy2.near hn (hy2.crossF (h.1 x hx) h.2 hab)
end
end Go.Proofs.Ytmhfehhpfkjloaa

/- Arrays of bytes compared, where they are asked to differ. Plain facts over any program. No condition. -/
namespace Go
open Go.RowKit
/-- Arrays of bytes compared, where they are asked to differ. -/
theorem wpQuiet_neq_bytes {P : Program} {ops : Array Oper} {C : World → Prop} {Q : Act → Prop} {rest : List Oper} {a : Act} {o : Oper} (hgd : o.guard = none) (t e r : TypeId) (x y : Operand) (ho : o.op = .binOp .neq t x y r) (n : Nat)
    (ht : P.underlying t = some (.array n e)) (he : P.underlying e = some (.int .u8)) (hsz : (P.info? e).map (·.size) = some 1) (hm : P.eqGuardType P.depth t = false)
    (l l' : List UInt8) (hx : a.eval x = .agg (l.map u8v).toArray) (hy : a.eval y = .agg (l'.map u8v).toArray) (hl : l.length = n) (hl' : l'.length = n) (b : Bool) (hbb : b = !decide (l = l'))
    (h : wpQuiet P ops C Q rest (a.put o.dst (.bool b))) : wpQuiet P ops C Q (o :: rest) a := by
  subst hbb
  refine wpQuiet_step fun K hK => ?_
  rw [if_pos (by simp [Region.wanted, hgd])]
  refine ⟨_, fun w hw => ?_, hK _ h⟩
  obtain ⟨i, hi, hs⟩ := Option.map_eq_some_iff.1 hsz
  have hsz' : ∀ w, (sizeOf e).run P w = .ok 1 w := fun w => by simp [sizeOf, typeInfo, hi, hs]
  have h1 := run_eql_bytes (P := P) w t e n ht he hsz' l l' hl hl'
  rw [u8v_cell] at h1
  have h2 : (l == l') = decide (l = l') := by by_cases h : l = l' <;> simp [h]
  rw [h2] at h1
  have h3 : (binOp .neq t (.agg (l.map u8v).toArray) (.agg (l'.map u8v).toArray)).run P w = .ok (.bool (!decide (l = l'))) w := by
    simp only [binOp, Sem.run_bind] at h1 ⊢
    generalize (Op.equal t (.agg (l.map u8v).toArray) (.agg (l'.map u8v).toArray)).run P w = r at h1 ⊢
    cases r with
    | ok v w' => simp only [Result.andThen_ok, Sem.run_pure, Result.ok.injEq, Value.bool.injEq] at h1 ⊢; exact ⟨by rw [h1.1], h1.2⟩
    | halt v w' => simp [Result.andThen] at h1
  unfold Oper.quietAt execOp
  simp only [ho, hx, hy, Sem.run_bind, run_eqGuard_agg w .neq t x y _ _ hm, h3, Result.andThen_ok, Sem.run_pure]
  exact ⟨rfl, rfl⟩
end Go

/- A superblock is read: the sum is right. Conditions: the bytes can be read. -/
namespace Go.Proofs.Ytmhfehhpfkjloaa
open Go.RowKit
theorem OwnsC.nearB {e : TypeId} {size base n : Nat} {w w' : World} {v : Value} {xs sp : List Value} {X : List Nat} (h : OwnsC e size w base v n xs sp) (k : Near X w w') (hX : ∀ x ∈ X, x < base) : OwnsC e size w' base v n xs sp := by
  rcases h with h | ⟨g, cap, rfl, hb, hgg, rest⟩
  · exact .inl h
  · exact .inr ⟨g, cap, rfl, hb, hgg.near k (fun hx => by have := hX g hx; omega), rest⟩
theorem headInfo : (Try.prog.info? 102).map (fun i => (i.zero, i.size, i.bytes)) = some (some (.agg #[.int .i64 0, .int .i64 0]), 2, 16) := by kernel_rfl
/-- k heads have been read. -/
def hdl (r : List UInt8) (k : Nat) : List (Int × Int) := (List.range k).map fun j => ((at4 r (60 + 8 * j) : Int), (at4 r (64 + 8 * j) : Int))
def hdCells (hs : List (Int × Int)) : List Value := hs.flatMap fun h => [.int .i64 h.1, .int .i64 h.2]
theorem hd_next (r : List UInt8) (k : Nat) : hdCells (hdl r (k + 1)) = hdCells (hdl r k) ++ [.int .i64 (at4 r (60 + 8 * k) : Int), .int .i64 (at4 r (60 + 8 * k + 4) : Int)] := by
  have e : 64 + 8 * k = 60 + 8 * k + 4 := by omega
  unfold hdCells hdl
  rw [List.range_succ, List.map_append, List.flatMap_append]
  simp [e]
theorem hdCells_map (hs : List (Int × Int)) : hdCells hs = (hs.flatMap fun h => [h.1, h.2]).map fun x => Value.int .i64 x := by
  unfold hdCells
  rw [List.map_flatMap]
  rfl
theorem Heads.of_reads {w : World} {A : Option Addr} {hs : List (Int × Int)} (h : Reads w A (hdCells hs)) : Heads w A hs := fun hp => by
  have hne : hdCells hs ≠ [] := by
    cases hs with
    | nil => simp at hp
    | cons x l => simp [hdCells]
  obtain ⟨b, off, e, hc⟩ := h hne
  refine ⟨b, off, e, fun i hi => ?_⟩
  obtain ⟨p1, p2⟩ := pairs_at hs i _ (List.getElem?_eq_getElem hi)
  exact ⟨hc _ _ (by rw [hdCells_map, List.getElem?_map, p1]; rfl), hc _ _ (by rw [hdCells_map, List.getElem?_map, p2]; rfl)⟩
theorem Heads.near {w w' : World} {A : Option Addr} {hs : List (Int × Int)} {X : List Nat} (h : Heads w A hs) (k : Near X w w') (hn : ∀ ad, A = some ad → ad.block ∉ X) : Heads w' A hs := fun hp => by
  obtain ⟨b, off, e, hc⟩ := h hp
  have hlt := World.block_lt_of_cell? w _ (hc 0 hp).1
  exact ⟨b, off, e, fun i hi => ⟨(k.cell (p := ⟨b, off + 2 * i, none⟩) hlt (hn ⟨b, off, none⟩ e)).trans (hc i hi).1, (k.cell (p := ⟨b, off + (2 * i + 1), none⟩) hlt (hn ⟨b, off, none⟩ e)).trans (hc i hi).2⟩⟩
theorem hdl_length (r : List UInt8) (k : Nat) : (hdl r k).length = k := by unfold hdl; rw [List.length_map, List.length_range]
theorem hd_same (r : List UInt8) (k : Nat) (hk : k = min (at4 r 56) 32) : Sp.same (rdf r 9, at4 r 52 == 1, hdl r k) (Sp.parse r) := by
  subst hk
  refine ⟨fun i hi => ?_, rfl, rfl⟩
  show rdf r 9 i = _
  unfold rdf
  rw [if_pos hi]
  rfl
theorem noselRaw : Try.prog.eqGuardType Try.prog.depth 94 = false := by kernel_rfl
def HlRel (w : World) (ga gs : Nat) (A : Option Addr) (c : Nat) (r : List UInt8) (wr : World) : Prop :=
  ∃ (k : Nat) (v : Value) (sp : List Value), k ≤ min (at4 r 56) 32 ∧ RdSt w wr ga gs A c (60 + 8 * k) (spc (rdf r 9) (at4 r 52 == 1) v) ∧ OwnsC 102 2 wr (gs + 1) v k (hdCells (hdl r k)) sp
set_option maxRecDepth 100000 in
set_option maxHeartbeats 4000000 in
theorem spRead_go (A : Option Addr) (c : Nat) (r : List UInt8) (w : World) (hr : r.length = 512) (hc : 512 ≤ c) (hc2 : c ≤ 9223372036854775807) (hby : Bytes w A r) (hS : Sha.sum (r.drop 16) = r.take 16) :
    Calls Try.prog 22 #[.slice A 512 c] w (RdPost w r) := by
  have hz := zeroSuper
  obtain ⟨w0, hw0⟩ : ∃ w0, w0 = (w.alloc (.cells #[.slice A 512 c] 43)).alloc (.cells spz 26) := ⟨_, rfl⟩
  have hB : Below w.heap.size w w0 := hw0 ▸ ((Below.refl w.heap.size w).alloc (Nat.le_refl _) (.cells #[.slice A 512 c] 43)).alloc (by simp) (.cells spz 26)
  have hbx : Blk w0 w.heap.size 43 #[.slice A 512 c] := hw0 ▸ (Blk.new w 43 #[.slice A 512 c]).alloc _
  have hbr : Blk w0 (w.heap.size + 1) 26 spz := by
    have h := Blk.new (w.alloc (.cells #[.slice A 512 c] 43)) 26 spz
    rw [hw0]; simpa using h
  obtain ⟨b, off, rfl, hbl, hcb⟩ := hby.at_ (by omega)
  have hd : Bytes w (if c = 16 then some ⟨b, off, none⟩ else some ⟨b, off + 16, none⟩) (r.drop 16) := hby.drop (k := 16) (cap := c) (by omega)
  rw [if_neg (by omega)] at hd
  obtain ⟨T, hT⟩ : ∃ T, T = r.take 16 := ⟨_, rfl⟩
  obtain ⟨D, hD⟩ : ∃ D, D = r.drop 16 := ⟨_, rfl⟩
  have hTl : T.length = 16 := by rw [hT]; simp; omega
  have hDl : D.length = 496 := by rw [hD]; simp; omega
  have hst : ∀ w', Near [] w0 w' → Calls Try.prog 61 #[.slice (some ⟨b, off + 16, none⟩) 496 (c - 16), .agg (T.map u8v).toArray] w' fun e w'' => e = .returned (.bool (decide (Sha.sum D = T))) ∧ Near [] w0 w'' := fun w' hw' =>
    (right_seal_any _ _ (c - 16) D T hDl.symm (by omega) (by omega) hTl w' ((hD ▸ hd : Bytes w _ D).below (below_near hB hw' (fun x hx => by cases hx) hB.size))).mono fun e w'' h => ⟨h.1, hw'.trans (Near.below h.2)⟩
  have hcs : ∀ w', Near [] w0 w' → w'.rangeAt b off (T.map u8v) := fun w' hw' => by
    rw [hT]
    exact takeBytes (fun i hi => ((below_near hB hw' (fun x hx => by cases hx) hB.size).cell (p := ⟨b, off + i, none⟩) hbl).trans (hcb i hi)) 16
  have H0 := Lib.hid (And.intro hB (And.intro hbx hbr))
  have HT := Lib.hid hTl
  have HS := Lib.hid (show decide (Sha.sum D = T) = true from by rw [hD, hT]; exact decide_eq_true hS)
  have HR := Lib.hid (show Sp.read r = if Sp.ok (Sp.parse r) = true ∧ Sp.bytes (Sp.parse r) = r then (0, Sp.parse r) else (4, Sp.none_) from by unfold Sp.read; rw [if_neg (by omega), if_neg (by simp [hS])])
  have HBY := Lib.hid (And.intro hby hr)
  clear hT hD hd hcb hbl hby hr hS hB hbx hbr hTl hDl
  go_enter Try.func22, Try.ntmps22
  go_wp2_with fail
  rw [← hw0]
  clear hw0
  refine wp_region_tree (Near [] w0) [] (PlanT.takes [0, 2] (PlanT.takes [1, 3, 4] (PlanT.takes [5] (.opt 6 (PlanT.takes [7] .done) .no)))) (by kernel_rfl) (by kernel_rfl) ((Near.refl _ _).drew) ?_
  refine wpTree_takeL _ _ _ (by rfl) (by rfl) ((Near.refl _ _).drew) ?_
  dsimp only [List.filterMap, List.getElem?_cons_zero, List.getElem?_cons_succ]
  (refine wpQuiet_load_cell (fun w' hw' => (Blk.near H0.out.2.1 hw' (by simp)).at_ 0 (v := .slice (some ⟨b, off, none⟩) 512 c) rfl) (by rfl) _ _ (by rfl) (by rfl) _ Try.underlying43 (by rfl) ?_; simp only [Act.put, List.setIfInBounds_toArray, List.set_cons_zero, List.set_cons_succ])
  (refine wpQuiet_load_cell (fun w' hw' => (Blk.near H0.out.2.1 hw' (by simp)).at_ 0 (v := .slice (some ⟨b, off, none⟩) 512 c) rfl) (by rfl) _ _ (by rfl) (by rfl) _ Try.underlying43 (by rfl) ?_; simp only [Act.put, List.setIfInBounds_toArray, List.set_cons_zero, List.set_cons_succ])
  refine wpQuiet_nil ?_
  refine wpTree_takeL _ _ _ (by rfl) (by rfl) ((Near.refl _ _).drew) ?_
  dsimp only [List.filterMap, List.getElem?_cons_zero, List.getElem?_cons_succ]
  repeat (go_big_quiet_step (exact fun _ => rfl))
  refine wpQuiet_array (by rfl) _ _ (by rfl) 16 _ Try.underlying105 (some ⟨b, off, none⟩) 16 c (by rfl) (Nat.le_refl _) ?_
  simp only [Act.put, List.setIfInBounds_toArray, List.set_cons_zero, List.set_cons_succ]
  refine wpQuiet_nil ?_
  refine wpTree_takeL _ _ _ (by rfl) (by rfl) ((Near.refl _ _).drew) ?_
  dsimp only [List.filterMap, List.getElem?_cons_zero, List.getElem?_cons_succ]
  refine wpQuiet_load_mid hcs (by rfl) _ _ (by rfl) (by rfl) _ Try.underlying105 (by rfl) size16 (by rw [List.length_map]; exact HT.out) ?_
  simp only [Act.put, List.setIfInBounds_toArray, List.set_cons_zero, List.set_cons_succ]
  refine wpQuiet_nil ?_
  refine wpTree_one _ rfl ?_
  go_wp2_with fail
  refine (hst _ (Near.refl _ _).drew).mono ?_
  rintro e w1 ⟨rfl, h1⟩
  rw [HS.out]
  clear hst hcs
  have H1 := Lib.hid (And.intro (H0.out.2.2.near h1 (by simp)) (below_near H0.out.1 h1 (fun x hx => by cases hx) H0.out.1.size))
  go_wp2_with fail
  refine TreeQ.in_ h1 ?_
  refine wpTree_pure _ _ _ (by rfl) (by rfl) ?_
  dsimp only [List.filterMap, List.getElem?_cons_zero, List.getElem?_cons_succ]
  repeat (go_big_quiet_step (fail))
  refine wpQuiet_nil ?_
  refine wpTree_done ?_
  have H2 := Lib.hid (H0.out.2.1.near h1 (by simp))
  clear H0
  have hsz := H1.out.2.size
  go_wp2_with fail
  have hl1 := H1.out.1.lt
  have hS0 : RdSt w ((w1.alloc (.cells #[.int .i64 16] 3)).alloc (.cells spz 26)) w1.heap.size (w1.heap.size + 1) (some ⟨b, off, none⟩) c 16 (rdc r 0) := by
    refine ⟨(H2.out.alloc _).alloc _, (H1.out.1.alloc _).alloc _, (Blk.new w1 3 #[.int .i64 16]).alloc _, ?_, (H1.out.2.alloc hsz _).alloc (by simp; omega) _, by omega, by omega⟩
    have h := Blk.new (w1.alloc (.cells #[.int .i64 16] 3)) 26 spz
    have e : rdc r 0 = spz := rfl
    rw [e]; simpa using h
  clear H2 h1 H1 hsz hl1
  generalize w1.heap.size = ga at hS0 ⊢
  generalize ga + 1 = gs at hS0 ⊢
  generalize (w1.alloc (.cells #[.int .i64 16] 3)).alloc (.cells spz 26) = w2 at hS0 ⊢
  clear w1
  have H2 := Lib.hid hS0
  clear hS0
  refine (next_st H2.out HBY.out.1 HBY.out.2 (by omega)).mono ?_
  rintro e w3 ⟨rfl, hS, -⟩
  have H3 := Lib.hid (show RdSt w w3 ga gs _ c 20 (rdc r 0) from hS)
  clear hS H2
  go_wp2_with fail
  refine (next_st H3.out HBY.out.1 HBY.out.2 (by omega)).mono ?_
  rintro e w4 ⟨rfl, hS, -⟩
  have H4 := Lib.hid (show RdSt w w4 ga gs _ c 24 (rdc r 0) from hS)
  clear hS H3
  go_wp2_with fail
  refine (next_st H4.out HBY.out.1 HBY.out.2 (by omega)).mono ?_
  rintro e w5 ⟨rfl, hS, -⟩
  have H5 := Lib.hid (show RdSt w w5 ga gs _ c 28 (rdc r 0) from hS)
  clear hS H4
  have d0 := H5.out.bs.at_ 0 (rdc_zero r 0 0 (by omega) (by omega))
  have f0 := H5.out.bs.frozen 0
  have d1 := H5.out.bs.at_ 1 (rdc_zero r 0 1 (by omega) (by omega))
  have f1 := H5.out.bs.frozen 1
  have d2 := H5.out.bs.at_ 2 (rdc_zero r 0 2 (by omega) (by omega))
  have f2 := H5.out.bs.frozen 2
  go_wp2_with fail
  have hS : RdSt w (((w5.setCell ⟨gs, 0, none⟩ (.int .i64 (at4 r 16 : Int))).setCell ⟨gs, 1, none⟩ (.int .i64 (at4 r 20 : Int))).setCell ⟨gs, 2, none⟩ (.int .i64 (at4 r 24 : Int))) ga gs _ c 28 (rdc r 3) := (((H5.out.put (k := 0) (by omega)).put (k := 1) (by omega)).put (k := 2) (by omega))
  clear d0 f0 d1 f1 d2 f2 H5
  generalize (((w5.setCell ⟨gs, 0, none⟩ (.int .i64 (at4 r 16 : Int))).setCell ⟨gs, 1, none⟩ (.int .i64 (at4 r 20 : Int))).setCell ⟨gs, 2, none⟩ (.int .i64 (at4 r 24 : Int))) = w6 at hS ⊢
  have H6 := Lib.hid hS
  clear hS
  refine (next_st H6.out HBY.out.1 HBY.out.2 (by omega)).mono ?_
  rintro e w7 ⟨rfl, hS, -⟩
  have H7 := Lib.hid (show RdSt w w7 ga gs _ c 32 (rdc r 3) from hS)
  clear hS H6
  go_wp2_with fail
  refine (next_st H7.out HBY.out.1 HBY.out.2 (by omega)).mono ?_
  rintro e w8 ⟨rfl, hS, -⟩
  have H8 := Lib.hid (show RdSt w w8 ga gs _ c 36 (rdc r 3) from hS)
  clear hS H7
  go_wp2_with fail
  refine (next_st H8.out HBY.out.1 HBY.out.2 (by omega)).mono ?_
  rintro e w9 ⟨rfl, hS, -⟩
  have H9 := Lib.hid (show RdSt w w9 ga gs _ c 40 (rdc r 3) from hS)
  clear hS H8
  go_wp2_with fail
  refine (next_st H9.out HBY.out.1 HBY.out.2 (by omega)).mono ?_
  rintro e w10 ⟨rfl, hS, -⟩
  have H10 := Lib.hid (show RdSt w w10 ga gs _ c 44 (rdc r 3) from hS)
  clear hS H9
  have d3 := H10.out.bs.at_ 3 (rdc_zero r 3 3 (by omega) (by omega))
  have f3 := H10.out.bs.frozen 3
  have d4 := H10.out.bs.at_ 4 (rdc_zero r 3 4 (by omega) (by omega))
  have f4 := H10.out.bs.frozen 4
  have d5 := H10.out.bs.at_ 5 (rdc_zero r 3 5 (by omega) (by omega))
  have f5 := H10.out.bs.frozen 5
  have d6 := H10.out.bs.at_ 6 (rdc_zero r 3 6 (by omega) (by omega))
  have f6 := H10.out.bs.frozen 6
  go_wp2_with fail
  have hS : RdSt w ((((w10.setCell ⟨gs, 3, none⟩ (.int .i64 (at4 r 28 : Int))).setCell ⟨gs, 4, none⟩ (.int .i64 (at4 r 32 : Int))).setCell ⟨gs, 5, none⟩ (.int .i64 (at4 r 36 : Int))).setCell ⟨gs, 6, none⟩ (.int .i64 (at4 r 40 : Int))) ga gs _ c 44 (rdc r 7) := ((((H10.out.put (k := 3) (by omega)).put (k := 4) (by omega)).put (k := 5) (by omega)).put (k := 6) (by omega))
  clear d3 f3 d4 f4 d5 f5 d6 f6 H10
  generalize ((((w10.setCell ⟨gs, 3, none⟩ (.int .i64 (at4 r 28 : Int))).setCell ⟨gs, 4, none⟩ (.int .i64 (at4 r 32 : Int))).setCell ⟨gs, 5, none⟩ (.int .i64 (at4 r 36 : Int))).setCell ⟨gs, 6, none⟩ (.int .i64 (at4 r 40 : Int))) = w11 at hS ⊢
  have H11 := Lib.hid hS
  clear hS
  refine (next_st H11.out HBY.out.1 HBY.out.2 (by omega)).mono ?_
  rintro e w12 ⟨rfl, hS, -⟩
  have H12 := Lib.hid (show RdSt w w12 ga gs _ c 48 (rdc r 7) from hS)
  clear hS H11
  go_wp2_with fail
  refine (next_st H12.out HBY.out.1 HBY.out.2 (by omega)).mono ?_
  rintro e w13 ⟨rfl, hS, -⟩
  have H13 := Lib.hid (show RdSt w w13 ga gs _ c 52 (rdc r 7) from hS)
  clear hS H12
  have d7 := H13.out.bs.at_ 7 (rdc_zero r 7 7 (by omega) (by omega))
  have f7 := H13.out.bs.frozen 7
  have d8 := H13.out.bs.at_ 8 (rdc_zero r 7 8 (by omega) (by omega))
  have f8 := H13.out.bs.frozen 8
  go_wp2_with fail
  have hS : RdSt w ((w13.setCell ⟨gs, 7, none⟩ (.int .i64 (at4 r 44 : Int))).setCell ⟨gs, 8, none⟩ (.int .i64 (at4 r 48 : Int))) ga gs _ c 52 (rdc r 9) := ((H13.out.put (k := 7) (by omega)).put (k := 8) (by omega))
  clear d7 f7 d8 f8 H13
  generalize ((w13.setCell ⟨gs, 7, none⟩ (.int .i64 (at4 r 44 : Int))).setCell ⟨gs, 8, none⟩ (.int .i64 (at4 r 48 : Int))) = w14 at hS ⊢
  have H14 := Lib.hid hS
  clear hS
  refine (next_st H14.out HBY.out.1 HBY.out.2 (by omega)).mono ?_
  rintro e w15 ⟨rfl, hS, -⟩
  have H15 := Lib.hid (show RdSt w w15 ga gs _ c 56 (rdc r 9) from hS)
  clear hS H14
  have d9 := H15.out.bs.at_ 9 (v := .bool false) rfl
  have f9 := H15.out.bs.frozen 9
  go_wp2_with fail
  have efe : (((at4 r 52 : Nat) : Int) == 1) = (at4 r 52 == 1) := by rw [Bool.eq_iff_iff]; simp; omega
  rw [efe]
  have hS : RdSt w (w15.setCell ⟨gs, 9, none⟩ (.bool (at4 r 52 == 1))) ga gs _ c 56 (spc (rdf r 9) (at4 r 52 == 1) (.slice none 0 0)) := H15.out.set 9 _
  clear d9 f9 H15 efe
  generalize w15.setCell ⟨gs, 9, none⟩ (.bool (at4 r 52 == 1)) = w16 at hS ⊢
  have H16 := Lib.hid hS
  clear hS
  refine (next_st H16.out HBY.out.1 HBY.out.2 (by omega)).mono ?_
  rintro e w17 ⟨rfl, hS, -⟩
  have H17 := Lib.hid (show HlRel w ga gs (some ⟨b, off, none⟩) c r w17 from ⟨0, .slice none 0 0, [], Nat.zero_le _, hS, OwnsC.nil _ _ _ _⟩)
  clear hS H16
  go_wp2_with fail
  go_loopw [] (fun wv => HlRel w ga gs (some ⟨b, off, none⟩) c r wv) (fun wv => match wv.cell? ⟨gs, 10, none⟩ with | some (.slice _ n _) => 32 - n | _ => 0)
  case atStart => exact H17.out
  case round =>
    clear H17
    obtain ⟨k, v, sp, hk, hS, ho⟩ := hrel
    obtain ⟨B, d, rfl, hkd, hdm, hrd, -⟩ := OwnsC.reads ho
    have d10 := hS.bs.at_ 10 (v := .slice B k d) rfl
    have f10 := hS.bs.frozen 10
    have HX := Lib.hid (And.intro hS (And.intro ho (And.intro hrd hkd)))
    clear hS ho hrd hkd
    by_cases q1 : (k : Int) < min ((at4 r 56 : Nat) : Int) 32
    · have q0 : 0 < at4 r 56 := by omega
      go_wp2_with fail
      obtain ⟨X, hX⟩ : ∃ X, X = ga :: (Value.slice B k d).ownBlock.toList := ⟨_, rfl⟩
      have hgX : gs ∉ X := by
        rw [hX]
        have h1 := HX.out.1.hgs
        have h2 := OwnsC.lt HX.out.2.1
        intro h
        rcases List.mem_cons.1 h with h | h
        · omega
        · rw [Option.mem_toList] at h
          have h3 := (h2 gs h).1
          omega
      have HGX := Lib.hid hgX
      have hga0 : ga ∈ X := by rw [hX]; exact List.mem_cons_self
      have HXX := Lib.hid (And.intro hX hga0)
      clear hX hgX hga0 d10 f10
      have hC0 := (Near.refl X wr).drew
      refine wp_region_tree (Near X wr) [10] (PlanT.takes [0, 2, 4] (PlanT.takes [1] (.opt 3 (.opt 5 (PlanT.takes [6] (.opt 7 (.opt 8 (PlanT.takes [9] (.opt 10 .done .no)) .no) .no)) .no) .no))) (by kernel_rfl) (by kernel_rfl) (hC0) ?_
      refine wpTree_pure _ _ _ (by rfl) (by rfl) ?_
      dsimp only [List.filterMap, List.getElem?_cons_zero, List.getElem?_cons_succ]
      repeat (go_big_quiet_step (fail))
      refine wpQuiet_nil ?_
      refine wpTree_takeL _ _ _ (by rfl) (by rfl) (hC0) ?_
      dsimp only [List.filterMap, List.getElem?_cons_zero, List.getElem?_cons_succ]
      (refine wpQuiet_load_cell (fun w' hw' => (Blk.near HX.out.1.bs hw' HGX.out).at_ 10 (v := .slice B k d) rfl) (by rfl) _ _ (by rfl) (by rfl) _ Try.underlying24 (by rfl) ?_; simp only [Act.put, List.setIfInBounds_toArray, List.set_cons_zero, List.set_cons_succ])
      refine wpQuiet_nil ?_
      refine wpTree_one _ rfl ?_
      go_wp2_with fail
      have hk32 : 60 + 8 * k + 8 ≤ 512 := by omega
      refine (next_st (HX.out.1.near (Near.refl _ _).drew) HBY.out.1 HBY.out.2 (by omega)).mono ?_
      rintro e w18 ⟨rfl, hS, hn⟩
      have hC1 : Near X wr w18 := hC0.trans (hn.wider (fun x hx => by rw [List.mem_singleton.1 hx]; exact HXX.out.2))
      have ho1 : OwnsC 102 2 w18 (gs + 1) (.slice B k d) k (hdCells (hdl r k)) sp := OwnsC.nearB (OwnsC.nearB HX.out.2.1 (Near.refl [ga] wr).drew (by have h1 := HX.out.1.hgs; intro x hx; rw [List.mem_singleton.1 hx]; omega)) hn (by have h1 := HX.out.1.hgs; intro x hx; rw [List.mem_singleton.1 hx]; omega)
      have H18 := Lib.hid (And.intro hS ho1)
      clear hS hn hC0 ho1
      go_wp2_with fail
      refine TreeQ.in_ hC1 ?_
      refine wpTree_one _ rfl ?_
      go_wp2_with fail
      refine (next_st H18.out.1 HBY.out.1 HBY.out.2 (by omega)).mono ?_
      rintro e w19 ⟨rfl, hS, hn⟩
      have hC2 : Near X wr w19 := hC1.trans (hn.wider (fun x hx => by rw [List.mem_singleton.1 hx]; exact HXX.out.2))
      have ho1 : OwnsC 102 2 w19 (gs + 1) (.slice B k d) k (hdCells (hdl r k)) sp := OwnsC.nearB H18.out.2 hn (by have h1 := HX.out.1.hgs; intro x hx; rw [List.mem_singleton.1 hx]; omega)
      have H19 := Lib.hid (And.intro hS ho1)
      clear hS hn hC1 ho1 H18
      go_wp2_with fail
      refine TreeQ.in_ hC2 ?_
      refine wpTree_pure _ _ _ (by rfl) (by rfl) ?_
      dsimp only [List.filterMap, List.getElem?_cons_zero, List.getElem?_cons_succ]
      repeat (go_big_quiet_step (fail))
      refine wpQuiet_nil ?_
      refine wpTree_one _ rfl ?_
      go_wp2_with fail
      have hba := (Below.refl w19.heap.size w19).alloc (Nat.le_refl _) (.cells #[.int .i64 (at4 r (60 + 8 * k) : Int), .int .i64 (at4 r (60 + 8 * k + 4) : Int)] 102)
      have hC3 : Near X wr (w19.alloc (.cells #[.int .i64 (at4 r (60 + 8 * k) : Int), .int .i64 (at4 r (60 + 8 * k + 4) : Int)] 102)) := hC2.trans (Near.below hba)
      have hoa := H19.out.2.alloc (.cells #[.int .i64 (at4 r (60 + 8 * k) : Int), .int .i64 (at4 r (60 + 8 * k + 4) : Int)] 102)
      have hra := reads_new w19 102 [.int .i64 (at4 r (60 + 8 * k) : Int), .int .i64 (at4 r (60 + 8 * k + 4) : Int)]
      have hsa : gs + 1 ≤ (w19.alloc (.cells #[.int .i64 (at4 r (60 + 8 * k) : Int), .int .i64 (at4 r (60 + 8 * k + 4) : Int)] 102)).heap.size := Nat.le_trans H19.out.1.bs.lt hba.size
      have hS3 := H19.out.1.near (Near.below hba)
      refine TreeQ.in_ hC3 ?_
      refine wpTree_one _ rfl ?_
      refine wpList_append_vals (by rfl) _ _ _ (by rfl) (gs + 1) 102 (.agg #[.int .i64 0, .int .i64 0]) 2 16 Try.underlying24 headInfo (by rfl) (by omega) (.slice B k d) k (hdCells (hdl r k)) sp (by rfl) hoa (some ⟨w19.heap.size, 0, none⟩) 1 1 [.int .i64 (at4 r (60 + 8 * k) : Int), .int .i64 (at4 r (60 + 8 * k + 4) : Int)] (by rfl) (by rfl) hra (by simp [Value.oneCell']) (by simp only [maxLen]; omega) (by omega) hsa ?_
      intro v3 w3 sp3 ho3 hg3 hv3 hn3
      have hC4 : Near X wr w3 := hC3.trans (Near.grown hg3 (fun x hx => by rw [HXX.out.1, hx]; simp))
      go_wp2_with fail
      refine TreeQ.in_ hC4 ?_
      refine wpTree_pure _ _ _ (by rfl) (by rfl) ?_
      dsimp only [List.filterMap, List.getElem?_cons_zero, List.getElem?_cons_succ]
      repeat (go_big_quiet_step (fail))
      refine wpQuiet_nil ?_
      refine wpTree_one _ rfl ?_
      have hS4 := hS3.nearX (Near.grown (X := (Value.slice B k d).ownBlock.toList) hg3 (fun x hx => by rw [hx]; simp)) (fun x hx => by rw [Option.mem_toList] at hx; have h := (OwnsC.lt HX.out.2.1 x hx).1; omega)
      obtain ⟨B3, d3, rfl, -, -, -, -⟩ := OwnsC.reads ho3
      have d10 := hS4.bs.at_ 10 (v := .slice B k d) rfl
      have f10 := hS4.bs.frozen 10
      have H20 := Lib.hid (And.intro hS4 ho3)
      clear hS4 ho3 hba hC3 hoa hra hsa hS3 hC2 H19 hg3 hv3 hn3
      go_wp2_with fail
      have hS5 : RdSt w (w3.setCell ⟨gs, 10, none⟩ (.slice B3 (k + 1) d3)) ga gs _ c (60 + 8 * (k + 1)) (spc (rdf r 9) (at4 r 52 == 1) (.slice B3 (k + 1) d3)) := H20.out.1.set 10 _
      have ho5 : OwnsC 102 2 (w3.setCell ⟨gs, 10, none⟩ (.slice B3 (k + 1) d3)) (gs + 1) (.slice B3 (k + 1) d3) (k + 1) (hdCells (hdl r (k + 1))) sp3 := by
        rw [hd_next]
        refine OwnsC.off H20.out.2 (fun e => ?_) _
        have h := (OwnsC.lt H20.out.2 gs e).1
        omega
      have e1 := hS5.bs.at_ 10 (v := .slice B3 (k + 1) d3) rfl
      have e0 := HX.out.1.bs.at_ 10 (v := .slice B k d) rfl
      have HE := Lib.hid (And.intro e1 e0)
      have HF := Lib.hid (show HlRel w ga gs (some ⟨b, off, none⟩) c r _ from ⟨k + 1, _, sp3, by omega, hS5, ho5⟩)
      clear hS5 ho5 e1 e0
      refine TreeQ.out (by rfl) ?_
      refine wpTree_done ?_
      go_wp2_with fail
      go_roundw
      case rel => exact HF.out
      case measure => rw [HE.out.1, HE.out.2]; show 32 - (k + 1) < 32 - k; omega
    · have hmin : k = min (at4 r 56) 32 := by omega
      have hsame := hd_same r k hmin
      have hheads : Heads wr B (hdl r k) := Heads.of_reads HX.out.2.2.1
      have hhl := hdl_length r k
      obtain ⟨F, hF⟩ : ∃ F, F = rdf r 9 := ⟨_, rfl⟩
      obtain ⟨FE, hFE⟩ : ∃ F, F = (at4 r 52 == 1) := ⟨_, rfl⟩
      obtain ⟨HL, hHL⟩ : ∃ F, F = hdl r k := ⟨_, rfl⟩
      rw [← hF, ← hFE, ← hHL] at hsame
      rw [← hHL] at hheads hhl
      have hS := HX.out.1
      rw [← hF, ← hFE] at hS
      have hkd := HX.out.2.2.2
      have hok : Sp.ok (F, FE, HL) = Sp.ok (Sp.parse r) := Sp.same_ok hsame
      have hbys : Sp.bytes (F, FE, HL) = Sp.bytes (Sp.parse r) := Sp.same_bytes hsame
      have hk32 : k ≤ 32 := by omega
      have chk : ∀ wx, Near [] wr wx → Calls Try.prog 25 #[.agg (spc F FE (.slice B k d))] wx fun e w' => e = .returned (.int .i64 (spCode (F, FE, HL))) ∧ Near [] wr w' := fun wx hx =>
        (spCheck_any F FE B k d HL wx hhl.symm (by omega) (hheads.near hx (by simp))).mono fun e w' h => ⟨h.1, hx.trans (Near.below h.2)⟩
      have lay : Sp.ok (F, FE, HL) = true → ∀ wx, Near [] wr wx → Calls Try.prog 57 #[.agg (spc F FE (.slice B k d))] wx fun e w' => e = .returned (.agg ((Sp.bytes (F, FE, HL)).map u8v).toArray) ∧ Near [] wr w' := fun ho wx hx =>
        (spLaid_any F FE B k d HL wx hhl.symm ho (hheads.near hx (by simp))).mono fun e w' h => ⟨h.1, hx.trans (Near.below h.2)⟩
      have HC := Lib.hid (And.intro chk lay)
      have HY := Lib.hid (And.intro hS (And.intro hheads (And.intro hsame (And.intro hok (And.intro hbys (And.intro hhl hkd))))))
      have hraw : ∀ w', Near [] wr w' → w'.rangeAt b off (r.map u8v) := fun w' hw' => by
        have h := (HBY.out.1.below (below_near hS.hb hw' (fun x hx => by cases hx) hS.hb.size)).range
        exact h
      have HRW := Lib.hid hraw
      have HBN : Hid (∀ ad, B = some ad → ad.block ∉ [w.heap.size + 1] ∧ w.heap.size ≤ ad.block) := Lib.hid fun ad e => by
        have h1 := (OwnsC.lt HX.out.2.1 ad.block (by rw [e]; rfl)).1
        have h2 := HX.out.1.hga
        have h3 := HX.out.1.hgs
        rw [List.mem_singleton]
        exact ⟨by omega, by omega⟩
      clear chk lay hS hheads hsame hok hbys hhl hkd hraw hF hFE hHL HX hmin
      have hC0 := (Near.refl [] wr).drew
      by_cases q0 : 0 < at4 r 56
      all_goals
        go_wp2_with fail
        clear d10 f10 q0 q1
        refine wp_region_tree (Near [] wr) [] (PlanT.takes [0] (.opt 1 (PlanT.takes [2, 3] (PlanT.takes [4, 6] (PlanT.takes [7] (PlanT.takes [8] (.opt 5 (PlanT.takes [9, 10] .done) .no))))) .no)) (by kernel_rfl) (by kernel_rfl) (hC0) ?_
        refine wpTree_takeL _ _ _ (by rfl) (by rfl) (hC0) ?_
        dsimp only [List.filterMap, List.getElem?_cons_zero, List.getElem?_cons_succ]
        (refine wpQuiet_load_blk (fun w' hw' => Blk.near HY.out.1.bs hw' (by simp)) (by rfl) _ _ (by rfl) (by rfl) _ Try.underlying26 (by rfl) (sizeSuper) (by rfl) ?_; simp only [Act.put, List.setIfInBounds_toArray, List.set_cons_zero, List.set_cons_succ])
        refine wpQuiet_nil ?_
        refine wpTree_one _ rfl ?_
        go_wp2_with fail
        refine (HC.out.1 _ hC0).mono ?_
        rintro e w20 ⟨rfl, hC1⟩
        clear hC0
        by_cases hokk : Sp.ok (F, FE, HL) = true
        · have hcode : spCode (F, FE, HL) = 0 := if_pos hokk
          rw [hcode]
          have HOK := Lib.hid hokk
          clear hcode hokk
          go_wp2_with fail
          refine TreeQ.in_ hC1 ?_
          refine wpTree_pure _ _ _ (by rfl) (by rfl) ?_
          dsimp only [List.filterMap, List.getElem?_cons_zero, List.getElem?_cons_succ]
          repeat (go_big_quiet_step (fail))
          refine wpQuiet_nil ?_
          refine wpTree_takeL _ _ _ (by rfl) (by rfl) (hC1) ?_
          dsimp only [List.filterMap, List.getElem?_cons_zero, List.getElem?_cons_succ]
          (refine wpQuiet_want' (by rfl) ?_; refine wpQuiet_load_blk (fun w' hw' => Blk.near HY.out.1.bs hw' (by simp)) (by rfl) _ _ (by rfl) (by rfl) _ Try.underlying26 (by rfl) (sizeSuper) (by rfl) ?_; simp only [Act.put, List.setIfInBounds_toArray, List.set_cons_zero, List.set_cons_succ])
          (refine wpQuiet_want' (by rfl) ?_; refine wpQuiet_load_cell (fun w' hw' => (Blk.near HY.out.1.bx hw' (by simp)).at_ 0 (v := .slice (some ⟨b, off, none⟩) 512 c) rfl) (by rfl) _ _ (by rfl) (by rfl) _ Try.underlying43 (by rfl) ?_; simp only [Act.put, List.setIfInBounds_toArray, List.set_cons_zero, List.set_cons_succ])
          refine wpQuiet_nil ?_
          refine wpTree_takeL _ _ _ (by rfl) (by rfl) hC1 ?_
          dsimp only [List.filterMap, List.getElem?_cons_zero, List.getElem?_cons_succ]
          refine wpQuiet_want' (by rfl) ?_
          refine wpQuiet_array (by rfl) _ _ (by rfl) 512 _ Try.underlying94 (some ⟨b, off, none⟩) 512 c (by rfl) (Nat.le_refl _) ?_
          simp only [Act.put, List.setIfInBounds_toArray, List.set_cons_zero, List.set_cons_succ]
          refine wpQuiet_nil ?_
          refine wpTree_takeL _ _ _ (by rfl) (by rfl) (hC1) ?_
          dsimp only [List.filterMap, List.getElem?_cons_zero, List.getElem?_cons_succ]
          (refine wpQuiet_want' (by rfl) ?_; refine wpQuiet_load_mid (HRW.out) (by rfl) _ _ (by rfl) (by rfl) _ Try.underlying94 (by rfl) (sizeRaw) (by rw [List.length_map]; exact HBY.out.2) ?_; simp only [Act.put, List.setIfInBounds_toArray, List.set_cons_zero, List.set_cons_succ])
          refine wpQuiet_nil ?_
          refine wpTree_one _ rfl ?_
          go_wp2_with fail
          refine (HC.out.2 HOK.out _ hC1).mono ?_
          rintro e w21 ⟨rfl, hC2⟩
          clear hC1
          go_wp2_with fail
          refine TreeQ.in_ hC2 ?_
          have hPl : (Sp.bytes (F, FE, HL)).length = 512 := Sp.bytes_length _ (Sp.ok_spec HOK.out).2.1
          refine wpTree_takeL _ _ _ (by rfl) (by rfl) hC2 ?_
          dsimp only [List.filterMap, List.getElem?_cons_zero, List.getElem?_cons_succ]
          refine wpQuiet_want' (by rfl) ?_
          refine wpQuiet_neq_bytes (by rfl) _ _ _ _ _ (by rfl) 512 Try.underlying94 Try.underlying5 size1 noselRaw (Sp.bytes (F, FE, HL)) r (by rfl) (by rfl) hPl HBY.out.2 _ rfl ?_
          simp only [Act.put, List.setIfInBounds_toArray, List.set_cons_zero, List.set_cons_succ]
          refine wpQuiet_pick (by rfl) _ _ _ (by rfl) false (by rfl) _ (by rfl) ?_
          simp only [Act.put, List.setIfInBounds_toArray, List.set_cons_zero, List.set_cons_succ]
          refine wpQuiet_nil ?_
          refine wpTree_done ?_
          have HZ := Lib.hid (And.intro (HY.out.1.near hC2) (HY.out.2.1.near hC2 (by simp)))
          have hbr := HZ.out.1.br
          have hbs := HZ.out.1.bs
          clear hPl hC2
          by_cases heq : Sp.bytes (F, FE, HL) = r
          · have hrd : Hid (Sp.read r = (0, Sp.parse r)) := Lib.hid (by rw [HR.out, if_pos ⟨HY.out.2.2.2.1 ▸ HOK.out, HY.out.2.2.2.2.1 ▸ heq⟩])
            rw [decide_eq_true heq]
            clear heq
            go_wp2_with (first
              | ((with_reducible show wpList _ _ _ ((⟨some 87, _, _, _, _, _⟩ : Oper) :: _) _ _); refine wpList_load_blk (o := ⟨some 87, _, _, _, _, _⟩) (hbs) (by rfl) _ _ (by rfl) (by rfl) _ Try.underlying26 (by rfl) (sizeSuper) (by exact spc_size _ _ _) ?_)
              | ((with_reducible show wpList _ _ _ ((⟨none, _, _, _, _, _⟩ : Oper) :: _) _ _); refine wpList_store_blk (o := ⟨none, _, _, _, _, _⟩) (hbr) (by rfl) _ _ _ (by rfl) (by rfl) (spc F FE (.slice B k d)) (by rfl) (sizeSuper) (spc_size _ _ _) (spc_size _ _ _) (spc_one _ _ _ rfl) ?_; intro w8 h8 hu8; have HB2 := Lib.hid (HZ.out.1.hb.upd hu8 (Nat.le_succ _)))
              | fail)
            refine bodyPost_ret (results_row_tmp (by rfl) _ _ _ _ _ _ (by rfl) h8 Try.underlying26 (by rfl) sizeSuper) rfl ?_
            unfold RdPost; rw [hrd.out]
            refine ⟨F, FE, B, d, HL, ?_, HY.out.2.2.1, HZ.out.2.near (Near.upd hu8 (List.mem_singleton_self _)) (fun ad e => (HBN.out ad e).1), ?_, fun ad e => (HBN.out ad e).2, HB2.out⟩
            · rw [HY.out.2.2.2.2.2.1]; rfl
            · rw [HY.out.2.2.2.2.2.1]; exact HY.out.2.2.2.2.2.2
          · have hrd : Hid (Sp.read r = (4, Sp.none_)) := Lib.hid (by rw [HR.out, if_neg (fun h => heq (HY.out.2.2.2.2.1.trans h.2))])
            rw [decide_eq_false heq]
            clear heq
            go_wp2_with (first
              | ((with_reducible show wpList _ _ _ ((⟨none, _, _, _, _, _⟩ : Oper) :: _) _ _); refine wpList_store_blk (o := ⟨none, _, _, _, _, _⟩) (hbr) (by rfl) _ _ _ (by rfl) (by rfl) (spz) (by rfl) (sizeSuper) (spc_size _ _ _) (spc_size _ _ _) (spc_one _ _ _ rfl) ?_; intro w8 h8 hu8; have HB2 := Lib.hid (HZ.out.1.hb.upd hu8 (Nat.le_succ _)); clear hbr hu8)
              | fail)
            refine bodyPost_ret (results_row_tmp (by rfl) _ _ _ _ _ _ (by rfl) h8 Try.underlying26 (by rfl) sizeSuper) rfl ?_
            unfold RdPost; rw [hrd.out]
            exact ⟨fun _ => 0, false, none, 0, [], rfl, ⟨fun _ _ => rfl, rfl, rfl⟩, fun h => absurd h (by simp), Nat.le_refl _, (fun _ h => by cases h), HB2.out⟩
        · have hcode : spCode (F, FE, HL) = 2 := if_neg hokk
          have hrd : Hid (Sp.read r = (4, Sp.none_)) := Lib.hid (by rw [HR.out, if_neg (fun h => hokk (HY.out.2.2.2.1.trans h.1))])
          rw [hcode]
          clear hcode hokk
          go_wp2_with fail
          refine TreeQ.in_ hC1 ?_
          refine wpTree_pure _ _ _ (by rfl) (by rfl) ?_
          dsimp only [List.filterMap, List.getElem?_cons_zero, List.getElem?_cons_succ]
          repeat (go_big_quiet_step (fail))
          refine wpQuiet_nil ?_
          refine wpTree_takeL _ _ _ (by rfl) (by rfl) (hC1) ?_
          dsimp only [List.filterMap, List.getElem?_cons_zero, List.getElem?_cons_succ]
          go_big_quiet_step (fail)
          go_big_quiet_step (fail)
          refine wpQuiet_nil ?_
          refine wpTree_takeL _ _ _ (by rfl) (by rfl) (hC1) ?_
          dsimp only [List.filterMap, List.getElem?_cons_zero, List.getElem?_cons_succ]
          go_big_quiet_step (fail)
          refine wpQuiet_nil ?_
          refine wpTree_takeL _ _ _ (by rfl) (by rfl) (hC1) ?_
          dsimp only [List.filterMap, List.getElem?_cons_zero, List.getElem?_cons_succ]
          go_big_quiet_step (fail)
          refine wpQuiet_nil ?_
          refine wpTree_one _ rfl ?_
          go_wp2_with fail
          refine TreeQ.in_ hC1 ?_
          refine wpTree_pure _ _ _ (by rfl) (by rfl) ?_
          dsimp only [List.filterMap, List.getElem?_cons_zero, List.getElem?_cons_succ]
          repeat (go_big_quiet_step (fail))
          refine wpQuiet_nil ?_
          refine wpTree_done ?_
          have HZ := Lib.hid (HY.out.1.near hC1)
          have hbr := HZ.out.br
          clear hC1
          go_wp2_with (first
            | ((with_reducible show wpList _ _ _ ((⟨none, _, _, _, _, _⟩ : Oper) :: _) _ _); refine wpList_store_blk (o := ⟨none, _, _, _, _, _⟩) (hbr) (by rfl) _ _ _ (by rfl) (by rfl) (spz) (by rfl) (sizeSuper) (spc_size _ _ _) (spc_size _ _ _) (spc_one _ _ _ rfl) ?_; intro w8 h8 hu8; have HB2 := Lib.hid (HZ.out.hb.upd hu8 (Nat.le_succ _)); clear hbr hu8)
            | fail)
          refine bodyPost_ret (results_row_tmp (by rfl) _ _ _ _ _ _ (by rfl) h8 Try.underlying26 (by rfl) sizeSuper) rfl ?_
          unfold RdPost; rw [hrd.out]
          exact ⟨fun _ => 0, false, none, 0, [], rfl, ⟨fun _ _ => rfl, rfl, rfl⟩, fun h => absurd h (by simp), Nat.le_refl _, (fun _ h => by cases h), HB2.out⟩
end Go.Proofs.Ytmhfehhpfkjloaa

/- The copies of a superblock on a disk: which one is open, what a format and a write do. Plain facts. No condition. -/
namespace Go
/-- A copy's bytes. -/
def Dsk.cpy (d : Dsk) (i : Nat) : List UInt8 := (d.L.drop (512 * i)).take 512
def Dsk.cpys (d : Dsk) : List (List UInt8) := [d.cpy 0, d.cpy 1, d.cpy 2, d.cpy 3]
/-- Why a disk has no copies. -/
def Dsk.rdy (d : Dsk) (f : Option Fus) : Int := if d.isOut f = true then 11 else if d.N < 8 then 5 else 0
end Go
namespace Go.Proofs.Ytmhfehhpfkjloaa
def zero512 : List UInt8 := List.replicate 512 0
def Sp.step (cs : List (List UInt8)) (p : SpT × List UInt8) (b : List UInt8) : SpT × List UInt8 :=
  if (Sp.read b).1 = 0 ∧ 2 ≤ cs.count b ∧ p.1.1 0 < (Sp.read b).2.1 0 then ((Sp.read b).2, b) else p
def Sp.best (cs : List (List UInt8)) : SpT × List UInt8 := cs.foldl (Sp.step cs) (Sp.none_, zero512)
def Sp.open_ (d : Dsk) (f : Option Fus) : Int × SpT :=
  if d.rdy f ≠ 0 then (d.rdy f, Sp.none_) else if 0 < (Sp.best d.cpys).1.1 0 then (0, (Sp.best d.cpys).1) else (10, Sp.none_)
/-- A superblock with another sequence. -/
def Sp.seq (n : Int) (s : SpT) : SpT := (fun i => if i = 0 then n else s.1 i, s.2.1, s.2.2)
def times (n : Nat) (b : List UInt8) : List UInt8 := (List.replicate n b).flatten
def Sp.lay (d : Dsk) (f : Option Fus) (b : List UInt8) (at_ n : Nat) : Int × Dsk × Option Fus :=
  if (d.write f (2 * at_ : Nat) (times n b)).1 ≠ 0 then d.write f (2 * at_ : Nat) (times n b) else (d.write f (2 * at_ : Nat) (times n b)).2.1.flush (d.write f (2 * at_ : Nat) (times n b)).2.2
def Sp.format (d : Dsk) (f : Option Fus) (s : SpT) : Int × Dsk × Option Fus :=
  if Sp.ok (Sp.seq 1 s) ≠ true then (2, d, f) else if d.rdy f ≠ 0 then (d.rdy f, d, f) else Sp.lay d f (Sp.bytes (Sp.seq 1 s)) 0 4
/-- Copies are put right, from the i-th on; was one wrong? -/
def Sp.heals (b : List UInt8) : List Nat → Bool → Dsk → Option Fus → Int × Dsk × Option Fus
  | [], wrong, d, f => if wrong then d.flush f else (0, d, f)
  | i :: is, wrong, d, f =>
    if d.cpy i = b then Sp.heals b is wrong d f
    else if (d.write f (2 * i : Nat) b).1 ≠ 0 then d.write f (2 * i : Nat) b
    else Sp.heals b is true (d.write f (2 * i : Nat) b).2.1 (d.write f (2 * i : Nat) b).2.2
def Sp.then_ (r : Int × Dsk × Option Fus) (g : Dsk → Option Fus → Int × Dsk × Option Fus) : Int × Dsk × Option Fus := if r.1 ≠ 0 then r else g r.2.1 r.2.2
def Sp.lays (d : Dsk) (f : Option Fus) (was next : List UInt8) : Int × Dsk × Option Fus :=
  Sp.then_ (Sp.then_ (Sp.heals was [0, 1, 2, 3] false d f) fun d f => Sp.lay d f next 0 2) fun d f => Sp.lay d f next 2 2
def Sp.write (d : Dsk) (f : Option Fus) (s : SpT) : (Int × SpT) × Dsk × Option Fus :=
  if (Sp.open_ d f).1 ≠ 0 then (((Sp.open_ d f).1, Sp.none_), d, f)
  else if (Sp.open_ d f).2.1 0 = 1073741824 then ((8, Sp.none_), d, f)
  else if Sp.ok (Sp.seq ((Sp.open_ d f).2.1 0 + 1) s) ≠ true then ((2, Sp.none_), d, f)
  else
    let r := Sp.lays d f (Sp.best d.cpys).2 (Sp.bytes (Sp.seq ((Sp.open_ d f).2.1 0 + 1) s))
    if r.1 ≠ 0 then ((r.1, Sp.none_), r.2) else ((0, Sp.seq ((Sp.open_ d f).2.1 0 + 1) s), r.2)
end Go.Proofs.Ytmhfehhpfkjloaa

/- A superblock is read, whatever the bytes; is a disk ready for copies: the program's Read, ready. Conditions: the bytes can be read; the disk is known. -/
namespace Go.Proofs.Ytmhfehhpfkjloaa
open Go.RowKit
theorem spRead_any (A : Option Addr) (n c : Nat) (r : List UInt8) (w : World) (hn : n = r.length) (hc : r.length ≤ c) (hc2 : c ≤ 9223372036854775807) (hlen : r.length ≤ 1099511627776) (hby : Bytes w A r) :
    Calls Try.prog 22 #[.slice A n c] w (RdPost w r) := by
  subst hn
  by_cases h1 : r.length ≠ 512
  · exact spRead_len A c r w h1 hlen
  have h1 : r.length = 512 := by omega
  by_cases hS : Sha.sum (r.drop 16) = r.take 16
  · rw [h1] at hc ⊢; exact spRead_go A c r w h1 hc hc2 hby hS
  · rw [h1] at hc ⊢; exact spRead_sum A c r w h1 hc hc2 hby hS
theorem spReady_all {w : World} {p : Pl} {gf : Option Nat} {d : Dsk} {f : Option Fus} (hd : DskR w p gf d) (hf : FusR w gf f) (hok : d.Ok) :
    Calls Try.prog 54 #[.pointer (some ⟨p.gd, 0, none⟩)] w fun e w' => e = .returned (.int .i64 (d.rdy f)) ∧ w' = w := by
  have hs := sectors_all hd
  have hu := up_all hd hf
  have h1 := hok.n1
  have h0 : ((d.N : Int) == 0) = false := by rw [beq_eq_false_iff_ne]; omega
  have HS := Lib.hid (And.intro hs hu)
  clear hs hu hd hf hok h1
  unfold Dsk.rdy
  by_cases ho : d.isOut f = true
  · rw [ho] at HS
    rw [if_pos ho]
    go_enter Try.func54, Try.ntmps54
    go_wp2_with fail
    refine HS.out.1.mono ?_
    rintro e w1 ⟨rfl, hw⟩
    obtain rfl := hw.symm
    clear hw
    go_wp2_with fail
    refine HS.out.2.mono ?_
    rintro e w1 ⟨rfl, hw⟩
    obtain rfl := hw.symm
    clear hw
    go_wp2
    go_ret
    exact ⟨rfl, rfl⟩
  · rw [if_neg ho]
    have ho : d.isOut f = false := by simpa using ho
    rw [ho] at HS
    clear ho
    have h8 : decide ((d.N : Int) < 8) = decide (d.N < 8) := by by_cases h : d.N < 8 <;> simp [h] <;> omega
    by_cases h : d.N < 8
    · rw [if_pos h]
      have h8' : ((d.N : Int) < 8) := by omega
      clear h8
      go_enter Try.func54, Try.ntmps54
      go_wp2_with fail
      refine HS.out.1.mono ?_
      rintro e w1 ⟨rfl, hw⟩
      obtain rfl := hw.symm
      clear hw
      go_wp2_with fail
      refine HS.out.2.mono ?_
      rintro e w1 ⟨rfl, hw⟩
      obtain rfl := hw.symm
      clear hw
      go_wp2_with fail
      refine HS.out.1.mono ?_
      rintro e w1 ⟨rfl, hw⟩
      obtain rfl := hw.symm
      clear hw
      go_wp2
      go_ret
      exact ⟨rfl, rfl⟩
    · rw [if_neg h]
      have h8' : ¬ ((d.N : Int) < 8) := by omega
      clear h8
      go_enter Try.func54, Try.ntmps54
      go_wp2_with fail
      refine HS.out.1.mono ?_
      rintro e w1 ⟨rfl, hw⟩
      obtain rfl := hw.symm
      clear hw
      go_wp2_with fail
      refine HS.out.2.mono ?_
      rintro e w1 ⟨rfl, hw⟩
      obtain rfl := hw.symm
      clear hw
      go_wp2_with fail
      refine HS.out.1.mono ?_
      rintro e w1 ⟨rfl, hw⟩
      obtain rfl := hw.symm
      clear hw
      go_wp2
      go_ret
      exact ⟨rfl, rfl⟩
end Go.Proofs.Ytmhfehhpfkjloaa

/- A superblock as an argument: what its cells are. Plain facts of this program. No condition. -/
namespace Go.Proofs.Ytmhfehhpfkjloaa
open Go.RowKit
def hdSh : Sh := .cons (.int .i64) (.cons (.int .i64) .nil)
def spSh : Sh := .cons (.int .i64) (.cons (.int .i64) (.cons (.int .i64) (.cons (.int .i64) (.cons (.int .i64) (.cons (.int .i64) (.cons (.int .i64) (.cons hdSh (.cons .bool (.cons (.slice hdSh) .nil)))))))))
theorem hdSh_is {w : World} {r : hdSh.T} {cs : List Value} (h : Sh.Is w hdSh r cs) : cs = [.int .i64 r.1, .int .i64 r.2.1] := by
  obtain ⟨c1, c2, rfl, _, hx, c3, c4, rfl, _, hy, hz⟩ := h
  obtain ⟨rfl, _, _⟩ := hx
  obtain ⟨rfl, _, _⟩ := hy
  have hz : c4 = [] := hz
  subst hz
  rfl
def hdsOf (l : List hdSh.T) : List (Int × Int) := l.map fun r => (r.1, r.2.1)
theorem Heads.both {w : World} {B : Option Addr} {ts : List hdSh.T} {rows : List (List Value)} (h : Both (fun (d : hdSh.T) r => r.length = hdSh.size ∧ Sh.Is w hdSh d r) ts rows) (hr : Reads w B rows.flatten) : Heads w B (hdsOf ts) := by
  have hat : ∀ i, (hi : i < ts.length) → rows.flatten[i * 2]? = some (.int .i64 ts[i].1) ∧ rows.flatten[i * 2 + 1]? = some (.int .i64 ts[i].2.1) := by
    intro i hi
    obtain ⟨r, h1, h2, h3⟩ := both_at h i hi
    obtain rfl := hdSh_is h2
    refine ⟨?_, ?_⟩
    · have := h3 0 (by decide)
      rw [show i * hdSh.size + 0 = i * 2 by simp [hdSh, Sh.size]] at this
      rw [this]; rfl
    · have := h3 1 (by decide)
      rw [show i * hdSh.size + 1 = i * 2 + 1 by simp [hdSh, Sh.size]] at this
      rw [this]; rfl
  intro hp
  have hp0 : 0 < ts.length := by simpa [hdsOf] using hp
  have hne : rows.flatten ≠ [] := by intro e; have := (hat 0 hp0).1; rw [e] at this; simp at this
  obtain ⟨b, off, e, hc⟩ := hr hne
  refine ⟨b, off, e, fun i hi => ?_⟩
  have hi' : i < ts.length := by simpa [hdsOf] using hi
  obtain ⟨p1, p2⟩ := hat i hi'
  refine ⟨?_, ?_⟩
  · have := hc _ _ p1
    rw [Nat.mul_comm] at this
    simpa [hdsOf] using this
  · have := hc _ _ p2
    rw [Nat.mul_comm] at this
    simpa [hdsOf] using this
theorem spSh_is {w : World} {x : spSh.T} {cs : List Value} (h : Sh.Is w spSh x cs) : ∃ (f : HdF) (fe : Bool) (A : Option Addr) (c : Nat) (hs : List (Int × Int)), cs = (spc f fe (.slice A hs.length c)).toList ∧ hs.length ≤ c ∧ c ≤ 9223372036854775807 ∧ Heads w A hs := by
  obtain ⟨_, _, rfl, _, h0, _, _, rfl, _, h1, _, _, rfl, _, h2, _, _, rfl, _, h3, _, _, rfl, _, h4, _, _, rfl, _, h5, _, _, rfl, _, h6, _, _, rfl, _, h7, _, _, rfl, _, h8, _, _, rfl, _, h9, h10⟩ := h
  obtain ⟨rfl, _, _⟩ := h0
  obtain ⟨rfl, _, _⟩ := h1
  obtain ⟨rfl, _, _⟩ := h2
  obtain ⟨rfl, _, _⟩ := h3
  obtain ⟨rfl, _, _⟩ := h4
  obtain ⟨rfl, _, _⟩ := h5
  obtain ⟨rfl, _, _⟩ := h6
  obtain rfl := hdSh_is h7
  obtain rfl := h8
  obtain ⟨A, c, rows, rfl, k2, k3, k4, k5⟩ := h9
  have h10' := h10
  obtain rfl : _ = ([] : List Value) := h10'
  have hlen : (hdsOf x.2.2.2.2.2.2.2.2.2.1).length = x.2.2.2.2.2.2.2.2.2.1.length := List.length_map ..
  refine ⟨fun i => if i = 0 then x.1 else if i = 1 then x.2.1 else if i = 2 then x.2.2.1 else if i = 3 then x.2.2.2.1 else if i = 4 then x.2.2.2.2.1 else if i = 5 then x.2.2.2.2.2.1 else if i = 6 then x.2.2.2.2.2.2.1 else if i = 7 then x.2.2.2.2.2.2.2.1.1 else x.2.2.2.2.2.2.2.1.2.1, x.2.2.2.2.2.2.2.2.1, A, c, hdsOf x.2.2.2.2.2.2.2.2.2.1, ?_, by rw [hlen]; exact k2, by simpa [maxLen] using k3, Heads.both k4 k5⟩
  rw [hlen]
  rfl
end Go.Proofs.Ytmhfehhpfkjloaa

/- A range over a function that yields a fixed row of items; the state ahead of each round is known to the function, too. Plain facts over any program. No condition. -/
namespace Go
open Go.RowKit
section
variable {F : Fence} {n : Nat} {P : Program}
/-- The function's part: whoever calls keeps I, from round to round; then all N items are yielded, or the caller stops. -/
def RowOf (F : Fence) (n : Nat) (P : Program) (gf : Nat) (lb : Array Value) (encs : Nat → Array Value) (I : Nat → World → Prop) (N : Nat) : Prop :=
  ∀ (l : Nat) (J : Nat → World → Prop) (Jx : World → Prop) (W : World), (∀ k W, J k W → I k W) → (∀ k W W', J k W → Below W.heap.size W W' → J k W') → (∀ W W', Jx W → Below W.heap.size W W' → Jx W') →
    (∀ k W, J k W → k < N → YieldAt F (n - 1) P l (encs k) W fun e W' => (e = .returned (.bool true) ∧ J (k + 1) W') ∨ (e = .returned (.bool false) ∧ Jx W')) →
    J 0 W → CallsIn F n P gf (#[.func (.yield l) #[] #[]] ++ lb) W fun e W' => (∃ v, e = .returned v) ∧ (J N W' ∨ Jx W')
/-- How a round's body may end. -/
def rowPost (B : Nat) (I : World → Prop) (Ix : Code → World → Prop) (W : World) : Exit → Act → World → Prop
  | .normal, _, W' => KeepsFrom B W W' ∧ I W'
  | .ret, _, W' => KeepsFrom B W W' ∧ Ix .ret W'
  | .exit i, _, W' => KeepsFrom B W W' ∧ Ix (.exit i) W'
  | .goto t, _, W' => KeepsFrom B W W' ∧ Ix (.goto t) W'
  | .panic _, _, _ => False
  | .outgrown, _, _ => False
theorem KeepsFrom.near {B : Nat} {X : List Nat} {W W' : World} (h : Near X W W') (hX : ∀ x ∈ X, x < B) : KeepsFrom B W W' :=
  ⟨h.size, fun k _ hB hk _ => (h.block k (Array.getElem?_eq_some_iff.1 hk).1 (fun e => by have := hX k e; omega)).trans hk⟩
theorem KeepsFrom.below {B : Nat} {W W' : World} (h : Below W.heap.size W W') : KeepsFrom B W W' :=
  ⟨h.size, fun k _ _ hk _ => (h.block k (Array.getElem?_eq_some_iff.1 hk).1).trans hk⟩
theorem putObj_near (W : World) (l : Nat) (o : Obj) : Near [l] W (W.putObj l o) :=
  ⟨rfl, rfl, rfl, by simp [World.putObj], fun k _ hn => World.putObj_heap_other (fun e => hn (by rw [e]; exact List.mem_singleton_self _))⟩
theorem putObj_below {B : Nat} (W : World) (l : Nat) (o : Obj) (hB : B ≤ l) (hs : B ≤ W.heap.size) : Below B W (W.putObj l o) :=
  (putObj_near W l o).toBelow (fun x hx => by rw [List.mem_singleton.1 hx]; exact hB) hs
/-- What lay below B, and all cells, lie as they lay. -/
structure Kept (B : Nat) (W W' : World) : Prop where
  os : W'.os = W.os
  tape : W'.tape = W.tape
  output : W'.output = W.output
  size : W.heap.size ≤ W'.heap.size
  low : ∀ j, j < B → j < W.heap.size → W'.heap[j]? = W.heap[j]?
  cells : ∀ (j : Nat) (o : Obj), W.heap[j]? = some o → o.isCells = true → W'.heap[j]? = some o
theorem Kept.below {B : Nat} {W W' : World} (h : Below W.heap.size W W') : Kept B W W' :=
  ⟨h.os, h.tape, h.output, h.size, fun j _ hj => h.block j hj, fun j _ hj _ => (h.block j (Array.getElem?_eq_some_iff.1 hj).1).trans hj⟩
theorem Kept.put {B : Nat} {W : World} {l : Nat} {o o' : Obj} (hB : B ≤ l) (hl : W.heap[l]? = some o') (ho : o'.isCells = false) : Kept B W (W.putObj l o) :=
  ⟨rfl, rfl, rfl, by simp [World.putObj], fun j hj _ => World.putObj_heap_other (by omega), fun j o2 hj h2 => by
    by_cases e : j = l
    · subst e; rw [hl] at hj; injection hj with hj; subst hj; rw [ho] at h2; cases h2
    · exact (World.putObj_heap_other e).trans hj⟩
theorem Blk.keptW {B : Nat} {W W' : World} {g : Nat} {t : TypeId} {cs : Array Value} (h : Blk W g t cs) (k : Kept B W W') : Blk W' g t cs := k.cells g _ h rfl
theorem MapB.keptW {B : Nat} {W W' : World} {g : Nat} {es : Array MapEntry} {c : Nat} (h : MapB W g es c) (k : Kept B W W') (hg : g < B) : MapB W' g es c := (k.low g hg h.lt).trans h
theorem Kept.cell {B : Nat} {W W' : World} (k : Kept B W W') {p : Addr} {v : Value} (h : W.cell? p = some v) : W'.cell? p = some v := by
  unfold World.cell? at h ⊢
  split at h
  · rename_i cs t e
    rw [k.cells _ _ e rfl]; exact h
  · cases h
theorem Near.keptW {B : Nat} {X : List Nat} {w W W' : World} (h : Near X w W) (k : Kept B W W') (hB : w.heap.size ≤ B) : Near X w W' :=
  ⟨k.os.trans h.os, k.tape.trans h.tape, k.output.trans h.output, Nat.le_trans h.size k.size, fun j hj hn => (k.low j (by omega) (Nat.lt_of_lt_of_le hj h.size)).trans (h.block j hj hn)⟩
theorem Near.high {X Y : List Nat} {w W W' : World} (h : Near X w W) (k : Near Y W W') (hY : ∀ y ∈ Y, w.heap.size ≤ y) : Near X w W' :=
  ⟨k.os.trans h.os, k.tape.trans h.tape, k.output.trans h.output, Nat.le_trans h.size k.size, fun j hj hn => (k.block j (Nat.lt_of_lt_of_le hj h.size) (fun hx => by have := hY j hx; omega)).trans (h.block j hj hn)⟩
theorem Reads.keptW {B : Nat} {W W' : World} {A : Option Addr} {xs : List Value} (h : Reads W A xs) (k : Kept B W W') : Reads W' A xs := fun hn => by
  obtain ⟨b, off, e, hc⟩ := h hn
  exact ⟨b, off, e, fun j v hv => k.cell (hc j v hv)⟩
theorem wpIn_rangeRow {g : Operand} {ps : Array Tmp} {assign body : Code} {Q : Exit → Act → World → Prop} {a : Act} {w : World}
    (hro : F.round = none) (h1 : 1 ≤ n) {gf : Nat} {lb : Array Value} (hg : a.eval g = .func (.func gf) #[] lb) (hFg : F.fn gf) (eg : ∀ args w, (callFunc gf args).run P w = .ok (.enter gf args) w)
    (encs : Nat → Array Value) (hps : ∀ k, (encs k).size = ps.size) (N : Nat) (I : Nat → World → Prop) (Ix : Code → World → Prop)
    (hI : ∀ k W W', I k W → Kept w.heap.size W W' → I k W') (hIx : ∀ c W W', Ix c W → Kept w.heap.size W W' → Ix c W') (h0 : I 0 w)
    (hrow : RowOf F (n - 1) P gf lb encs I N)
    (hround : ∀ l k W, w.heap.size ≤ l → l < W.heap.size → I k W → k < N → assign.wpIn (F.inRound l) (n - 1 - 1) P
      (Exit.then (fun a₁ W₁ => Below W.heap.size W W₁ ∧ ∀ W₂, Kept w.heap.size W₁ W₂ → body.wpIn (F.inRound l) (n - 1 - 1) P (rowPost w.heap.size (I (k + 1)) Ix W₂) a₁ W₂) (fun _ _ _ => False))
      { tmps := (ps.zip (encs k)).foldl (fun t (p, v) => t.setIfInBounds p v) a.tmps, defers := [] } W)
    (hdone : ∀ D W, w.heap.size ≤ D → I N W → W.heap[D]? = some (.deferred (some [])) → Q .normal { a with defers := { target := .collected D, args := #[] } :: a.defers } W)
    (hstop : ∀ D c W, w.heap.size ≤ D → Ix c W → W.heap[D]? = some (.deferred (some [])) → c.wpIn F n P Q { a with defers := { target := .collected D, args := #[] } :: a.defers } W) :
    (Code.rangeFunc g ps assign body).wpIn F n P Q a w := by
  refine wpIn_rangeFunc fun fn hfn => ?_
  rw [hro]
  -- the loop's record, in a state; the two blocks that the loop lays
  let R : LoopState → Option Code → Obj := fun st pe => .loop { state := st, pending := pe, fn, tmps := a.tmps, params := ps, assign, body, defers := w.heap.size }
  let D := w.heap.size
  let l := w.heap.size + 1
  -- what the loop needs of a world, beside the caller's own
  let Bk : LoopState → Option Code → World → Prop := fun st pe W => W.heap[l]? = some (R st pe) ∧ W.heap[D]? = some (.deferred (some []))
  have bklt : ∀ {st pe W}, Bk st pe W → l < W.heap.size := fun h => (Array.getElem?_eq_some_iff.1 h.1).1
  have bkput : ∀ {st pe W} st' pe', Bk st pe W → Bk st' pe' (W.putObj l (R st' pe')) := fun st' pe' h =>
    ⟨World.putObj_heap_same (bklt h), (World.putObj_heap_other (by show D ≠ l; omega)).trans h.2⟩
  have bkput' : ∀ {st pe W} (o : Obj), Bk st pe W → (W.putObj l o).heap[D]? = some (.deferred (some [])) := fun o h => (World.putObj_heap_other (by show D ≠ l; omega)).trans h.2
  have bkbel : ∀ {st pe W W'}, Bk st pe W → Below W.heap.size W W' → Bk st pe W' := fun h k =>
    ⟨(k.block _ (bklt h)).trans h.1, (k.block _ (by have := bklt h; omega)).trans h.2⟩
  have low : ∀ {st pe W}, Bk st pe W → w.heap.size ≤ W.heap.size := fun h => by have := bklt h; omega
  have put : ∀ {st pe W} (o : Obj), Bk st pe W → Kept w.heap.size W (W.putObj l o) := fun o h => Kept.put (by show D ≤ l; omega) h.1 rfl
  -- the world behind the loop's entry
  let W1 := (w.alloc (.deferred (some []))).alloc (R .ready none)
  have e1 : Below w.heap.size w W1 := ((Below.refl _ w).alloc (Nat.le_refl _) _).alloc (by simp) _
  have b1 : Bk .ready none W1 := by
    refine ⟨?_, ?_⟩
    · have h := World.alloc_heap_new (w.alloc (.deferred (some []))) (R .ready none)
      rwa [World.size_alloc] at h
    · exact (Below.heap_alloc _ _ _ (by rw [World.size_alloc]; exact Nat.lt_succ_self _)).trans (World.alloc_heap_new w _)
  refine ⟨l, [{ target := .collected D, args := #[] }], W1, { target := .fn (.func gf) lb, args := #[.func (.yield l) #[] #[]] }, W1, gf, #[.func (.yield l) #[] #[]] ++ lb, W1,
    run_enterLoop_outer _ _ _ _ _, ?_, ?_, ?_, fun _ => h1, ?_⟩
  · simp only [resolve, hg]
    simp [go_sem]
  · intro f' hf'
    simp [Target.leads] at hf'
    exact hf' ▸ hFg
  · simp [invoke, go_sem, eg]
  refine (hrow l (fun k W => I k W ∧ Bk .ready none W) (fun W => ∃ c, Ix c W ∧ Bk .done (some c) W) W1 (fun _ _ h => h.1)
    (fun k W W' h b => ⟨hI k W W' h.1 (Kept.below b), bkbel h.2 b⟩) (fun W W' h b => by obtain ⟨c, hc, hb⟩ := h; exact ⟨c, hIx c W W' hc (Kept.below b), bkbel hb b⟩) ?_ ⟨hI 0 w W1 h0 (Kept.below e1), b1⟩).mono ?_
  · -- a round
    rintro k W ⟨hi, hb⟩ hk
    refine ⟨fn, _, assign, body, run_yield hb.1 (hps k), roundIn_of_wpIn hfn ?_⟩
    refine wpIn_mono (hround l k W (by show D ≤ l; omega) (bklt hb) hi hk) ?_
    rintro e a1 W2 he
    cases e
    case normal =>
      obtain ⟨hB, hbody⟩ := he
      have hb2 := bkbel hb hB
      refine ⟨_, run_beginRound hb2.1 rfl, ?_⟩
      have hb3 := bkput .busy none hb2
      refine wpIn_mono (hbody _ (Kept.put (by show D ≤ l; omega) hb2.1 rfl)) ?_
      rintro e3 a3 W4 hp
      have fin : KeepsFrom w.heap.size (W2.putObj l (R .busy none)) W4 → Bk .busy none W4 := fun hkf => ⟨hkf.same _ _ (by show D ≤ l; omega) hb3.1 rfl, hkf.same _ _ (Nat.le_refl _) hb3.2 rfl⟩
      cases e3 with
      | normal =>
        have hb4 := fin hp.1
        exact ⟨_, _, run_endRound none hb4.1, .inl ⟨rfl, hI _ _ _ hp.2 (put _ hb4), bkput .ready none hb4⟩⟩
      | ret =>
        have hb4 := fin hp.1
        exact ⟨_, _, run_endRound (some .ret) hb4.1, .inr ⟨rfl, .ret, hIx _ _ _ hp.2 (put _ hb4), bkput .done (some .ret) hb4⟩⟩
      | exit i =>
        have hb4 := fin hp.1
        exact ⟨_, _, run_endRound (some (.exit i)) hb4.1, .inr ⟨rfl, .exit i, hIx _ _ _ hp.2 (put _ hb4), bkput .done (some (.exit i)) hb4⟩⟩
      | goto t =>
        have hb4 := fin hp.1
        exact ⟨_, _, run_endRound (some (.goto t)) hb4.1, .inr ⟨rfl, .goto t, hIx _ _ _ hp.2 (put _ hb4), bkput .done (some (.goto t)) hb4⟩⟩
      | panic ch => exact hp.elim
      | outgrown => exact hp.elim
    all_goals exact he.elim
  · -- behind the function
    rintro e W2 ⟨⟨v, rfl⟩, (⟨hi, hb⟩ | ⟨c, hc, hb⟩)⟩
    · exact ⟨none, _, run_endLoop hb.1 (by simp), hdone D _ (Nat.le_refl _) (hI _ _ _ hi (put _ hb)) (bkput' _ hb)⟩
    · exact ⟨some c, _, run_endLoop hb.1 (by simp), hstop D c _ (Nat.le_refl _) (hIx _ _ _ hc (put _ hb)) (bkput' _ hb)⟩
end
end Go

/- An operation that calls nothing is carried out inside a fence as outside. Plain facts over any program. No condition. -/
namespace Go
section
variable {P : Program} {ops : Array Oper} {F : Fence} {n : Nat} {Q : Exit → Act → World → Prop} {a : Act} {w : World} {rest : List Oper}
theorem wpListIn_of {o : Oper} (hc : o.op.calmB = true) (h : wpList P ops (fun e a' w' => e = .normal ∧ wpListIn F n P ops Q rest a' w') [o] a w) : wpListIn F n P ops Q (o :: rest) a w := by
  simp only [wpList] at h
  simp only [wpListIn]
  split
  · rename_i hw
    rw [if_pos hw] at h
    have h1 := h.resolve_right fun hh => by obtain ⟨_, _, hq⟩ := hh.2; cases hq.1
    unfold Oper.wp at h1
    unfold Oper.wpIn
    refine ⟨fun f hf => (by rw [calm_about hc] at hf; cases hf), ?_⟩
    rw [calm_semAt hc]
    cases hr : (execOp a.eval o).run P w with
    | ok x w' =>
      rw [hr] at h1
      rcases calm_run hc _ _ _ _ hr with ⟨v, rfl⟩ | rfl
      · exact h1.2
      · exact h1.2
    | halt x w' =>
      rw [hr] at h1
      cases x <;> first | exact absurd h1.1 (by simp) | exact h1.elim
  · rename_i hw
    rw [if_neg hw] at h
    exact ⟨fun f hf => (by rw [calm_about hc] at hf; cases hf), h.2⟩
end
end Go

/- The copies of a superblock on a disk: the program's iterator. Conditions: the disk is not out, and has eight sectors. -/
namespace Go.Proofs.Ytmhfehhpfkjloaa
open Go.RowKit
attribute [local go_sem] Oper.semAt_some
theorem copies_any (g : Nat) (w : World) : Calls Try.prog 93 #[.pointer (some ⟨g, 0, none⟩)] w fun e w' => e = .returned (.func (.func 104) #[] #[.pointer (some ⟨w.heap.size, 0, none⟩)]) ∧ w' = w.alloc (.cells #[.pointer (some ⟨g, 0, none⟩)] 27) := by
  go_enter Try.func93, Try.ntmps93
  go_wp2
  go_ret
  exact ⟨rfl, rfl⟩
def encC (c : Nat → List UInt8) (k : Nat) : Array Value := #[.int .i64 (k : Int), .agg ((c k).map u8v).toArray]
/-- What the iterator needs of the disk ahead of a round. -/
def CpyAt (p : Pl) (gf : Option Nat) (bx : Nat) (c : Nat → List UInt8) (k : Nat) (W : World) : Prop :=
  Blk W bx 27 #[.pointer (some ⟨p.gd, 0, none⟩)] ∧ (k < 4 → ∃ d f, DskR W p gf d ∧ FusR W gf f ∧ d.Ok ∧ d.isOut f = false ∧ 8 ≤ d.N ∧ d.cpy k = c k)
theorem cpy_len {d : Dsk} (h : d.Ok) (hN : 8 ≤ d.N) {k : Nat} (hk : k < 4) : (d.cpy k).length = 512 := by
  unfold Dsk.cpy; rw [List.length_take, List.length_drop, h.len]; omega
theorem read_cpy {d : Dsk} {f : Option Fus} (_h : d.Ok) (ho : d.isOut f = false) (hN : 8 ≤ d.N) {k : Nat} (hk : k < 4) : d.read f (2 * (k : Int)) 2 = (d.cpy k, 0) := by
  unfold Dsk.read
  rw [if_neg (by rw [ho]; simp), if_neg (by omega), show (2 * (k : Int)).toNat = 2 * k by omega, show 256 * (2 * k) = 512 * k by omega]
  rfl
set_option maxRecDepth 100000 in
set_option maxHeartbeats 2000000 in
theorem copies_row (n : Nat) (hn : 1 ≤ n) (p : Pl) (gf : Option Nat) (bx : Nat) (c : Nat → List UInt8) (I : Nat → World → Prop) (hI : ∀ k W, I k W → CpyAt p gf bx c k W) :
    RowOf Fence.wide n Try.prog 104 #[.pointer (some ⟨bx, 0, none⟩)] (encC c) I 4 := by
  intro l J Jx W hJI hJb hJxb hY hJ0
  refine callsIn_of_wp Try.func104 rfl trivial ?_ rfl
  simp only [Try.ntmps104, List.size_toArray, List.length_cons, List.length_nil, Nat.reduceAdd, Nat.reduceSub, Array.replicate_succ, Array.replicate_zero, List.push_toArray, List.append_toArray, List.nil_append, List.cons_append]
  have HJ := Lib.hid hJ0
  clear hJ0
  gi_wp2
  gi_loopw [6] (fun i wr => ∃ k : Nat, k ≤ 4 ∧ i = .int .i64 (k : Int) ∧ J k wr) (fun i _ => 4 - (intOf i).toNat)
  case atStart => exact ⟨0, Nat.zero_le _, rfl, HJ.out⟩
  case round =>
    clear HJ
    obtain ⟨k, hk, rfl, hJs⟩ := hrel
    obtain ⟨hbx, hd⟩ := hI k wr (hJI k wr hJs)
    have c0 : wr.cell? ⟨bx, 0, none⟩ = some (.pointer (some ⟨p.gd, 0, none⟩)) := hbx.at_ 0 rfl
    clear hbx
    by_cases hlt : k < 4
    · obtain ⟨d, f, hd, hf, hok, ho, hN, hc⟩ := hd hlt
      have hl := cpy_len hok hN hlt
      have hrd := read_all (2 * (k : Int)) 2 hd hf hok
      rw [read_cpy hok ho hN hlt, Int.mul_comm] at hrd
      rw [hc] at hl hrd
      have HR := Lib.hid hrd
      have HL := Lib.hid hl
      have HJ := Lib.hid hJs
      clear hd hf hok ho hN hc hrd hl hJs
      have hk4 : k < 65536 := by omega
      gi_wp2_with fail
      refine ⟨trivial, ?_⟩
      refine ((callsIn_wide (n := n - 1)).2 HR.out).mono ?_
      rintro e w1 ⟨A, rfl, (⟨-, g, rfl, -, hb⟩ | ⟨h0, -⟩), hB⟩
      case inr => exact absurd rfl h0
      rw [HL.out]
      have HJ1 := Lib.hid (hJb _ _ _ HJ.out hB)
      have HB := Lib.hid hb
      obtain ⟨fn, tmps, assign, body, hy, hR⟩ := hY k w1 HJ1.out hlt
      simp only [encC] at hy
      have hra := run_arrayAt (P := Try.prog) w1 94 5 512 (some ⟨g, 0, none⟩) 512 512 Try.underlying94 (Nat.le_refl _)
      clear hY hB hb c0 HR
      gi_wp2_with (first
        | ((with_reducible show wpListIn _ _ _ _ _ ((⟨some 23, _, _, _, _, _⟩ : Oper) :: _) _ _); refine wpListIn_of (by rfl) ?_; refine wpList_want (by rfl) ?_; refine wpList_load_mid (o := ⟨some 23, _, _, _, _, _⟩) (Bytes.range (Blk.bytes HB.out)) (by rfl) _ _ (by rfl) (by rfl) _ Try.underlying94 (by rfl) sizeRaw (by rw [List.length_map]; exact HL.out) ?_; refine ⟨rfl, ?_⟩)
        | fail)
      refine hR.mono ?_
      clear hR hy hra HJ1 HJ HB
      rintro e W3 (⟨rfl, hJ3⟩ | ⟨rfl, hJx3⟩)
      · have HJ3 := Lib.hid hJ3
        clear hJ3
        gi_wp2
        go_roundw
        case rel => exact ⟨k + 1, by omega, by go_num, HJ3.out⟩
        case measure => simp [intOf]; omega
      · have HJ3 := Lib.hid hJx3
        clear hJx3
        gi_wp2
        refine bodyPost_ret (results_none rfl _ _ _) rfl ?_
        exact ⟨⟨_, rfl⟩, .inr HJ3.out⟩
    · obtain rfl : k = 4 := by omega
      gi_wp2
      go_end0
      exact ⟨⟨_, rfl⟩, .inl hJs⟩
end Go.Proofs.Ytmhfehhpfkjloaa
