/- A range over a function that yields a fixed row of items; the state ahead of each round is known to the function, too. Plain facts over any program. No condition. -/
import Derived.Test.YtgkljncigbiffaaDoorMTableTurned4
import Derived.RangeFuncWrites
import Derived.RangeFuncBound
import Derived.RangeFuncCalls
import Derived.RangeFuncLeaves
import Derived.WalkKit
import Derived.OwnWalkIn
import Derived.TacticsInMore
import Derived.LoopNIn
import Derived.LoopIn
import Derived.Deep.MidRow
namespace Go
open Go.RowKit
section
variable {F : Fence} {n : Nat} {P : Program}
theorem KeepsFrom.near {B : Nat} {X : List Nat} {W W' : World} (h : Near X W W') (hX : ∀ x ∈ X, x < B) : KeepsFrom B W W' :=
  ⟨h.size, fun k _ hB hk _ => (h.block k (Array.getElem?_eq_some_iff.1 hk).1 (fun e => by have := hX k e; omega)).trans hk⟩
theorem KeepsFrom.below {B : Nat} {W W' : World} (h : Below W.heap.size W W') : KeepsFrom B W W' :=
  ⟨h.size, fun k _ _ hk _ => (h.block k (Array.getElem?_eq_some_iff.1 hk).1).trans hk⟩
theorem putObj_near (W : World) (l : Nat) (o : Obj) : Near [l] W (W.putObj l o) :=
  ⟨rfl, rfl, rfl, by simp [World.putObj], fun k _ hn => World.putObj_heap_other (fun e => hn (by rw [e]; exact List.mem_singleton_self _))⟩
/-- What lay below B, and all cells, lie as they lay. -/
structure Kept (B : Nat) (W W' : World) : Prop where
  os : W'.os = W.os
  tape : W'.tape = W.tape
  output : W'.output = W.output
  size : W.heap.size ≤ W'.heap.size
  low : ∀ j, j < B → j < W.heap.size → W'.heap[j]? = W.heap[j]?
  cells : ∀ (j : Nat) (o : Obj), W.heap[j]? = some o → o.isCells = true → W'.heap[j]? = some o
theorem Kept.below {B : Nat} {W W' : World} (h : Below W.heap.size W W') : Kept B W W' :=
  ⟨h.os, h.tape, h.output, h.size, fun j _ hj => h.block j hj, fun j _ hj _ => (h.block j (Array.getElem?_eq_some_iff.1 hj).1).trans hj⟩
theorem Kept.put {B : Nat} {W : World} {l : Nat} {o o' : Obj} (hB : B ≤ l) (hl : W.heap[l]? = some o') (ho : o'.isCells = false) : Kept B W (W.putObj l o) :=
  ⟨rfl, rfl, rfl, by simp [World.putObj], fun j hj _ => World.putObj_heap_other (by omega), fun j o2 hj h2 => by
    by_cases e : j = l
    · subst e; rw [hl] at hj; injection hj with hj; subst hj; rw [ho] at h2; cases h2
    · exact (World.putObj_heap_other e).trans hj⟩
theorem Blk.keptW {B : Nat} {W W' : World} {g : Nat} {t : TypeId} {cs : Array Value} (h : Blk W g t cs) (k : Kept B W W') : Blk W' g t cs := k.cells g _ h rfl
theorem MapB.keptW {B : Nat} {W W' : World} {g : Nat} {es : Array MapEntry} {c : Nat} (h : MapB W g es c) (k : Kept B W W') (hg : g < B) : MapB W' g es c := (k.low g hg h.lt).trans h
theorem Kept.cell {B : Nat} {W W' : World} (k : Kept B W W') {p : Addr} {v : Value} (h : W.cell? p = some v) : W'.cell? p = some v := by
  unfold World.cell? at h ⊢
  split at h
  · rename_i cs t e
    rw [k.cells _ _ e rfl]; exact h
  · cases h
theorem Near.keptW {B : Nat} {X : List Nat} {w W W' : World} (h : Near X w W) (k : Kept B W W') (hB : w.heap.size ≤ B) : Near X w W' :=
  ⟨k.os.trans h.os, k.tape.trans h.tape, k.output.trans h.output, Nat.le_trans h.size k.size, fun j hj hn => (k.low j (by omega) (Nat.lt_of_lt_of_le hj h.size)).trans (h.block j hj hn)⟩
theorem Near.high {X Y : List Nat} {w W W' : World} (h : Near X w W) (k : Near Y W W') (hY : ∀ y ∈ Y, w.heap.size ≤ y) : Near X w W' :=
  ⟨k.os.trans h.os, k.tape.trans h.tape, k.output.trans h.output, Nat.le_trans h.size k.size, fun j hj hn => (k.block j (Nat.lt_of_lt_of_le hj h.size) (fun hx => by have := hY j hx; omega)).trans (h.block j hj hn)⟩
theorem Reads.keptW {B : Nat} {W W' : World} {A : Option Addr} {xs : List Value} (h : Reads W A xs) (k : Kept B W W') : Reads W' A xs := fun hn => by
  obtain ⟨b, off, e, hc⟩ := h hn
  exact ⟨b, off, e, fun j v hv => k.cell (hc j v hv)⟩
end
end Go

/- Maps keyed by arrays or structs: the walk's arms. Plain facts over any program. No condition. -/
namespace Go
open Go.RowKit Go.Instr
section
variable {α : Type} {P : Program} {kt : TypeId} {ok : α → Prop} {enc : α → Value}
variable {w : World} {ops : Array Oper} {rest : List Oper} {o : Oper} {a : Act} {Q : Exit → Act → World → Prop}
theorem wpList_lookup_k [DecidableEq α] (hgd : o.guard = none) (hk : KeyLaw P kt ok enc) (t et : TypeId) (m k : Operand) (ck : Bool) (ho : o.op = .lookup t m k ck) (ht : P.underlying t = some (.map kt et)) {g : Nat} {l : List (α × Value)} (hg : MapK w g ok enc l)
    (x : α) (hx : ok x) (z : Value) (hz : (zeroValue et).run P w = .ok z w) (hm : a.eval m = .map (some g)) (he : a.eval k = enc x)
    (h : wpList P ops Q rest (a.put o.dst (if ck then .tuple #[(kget l x).getD z, .bool (kget l x).isSome] else (kget l x).getD z)) w) : wpList P ops Q (o :: rest) a w :=
  wpList_run _ hgd (by unfold execOp; simp only [ho, hm, he, run_lookup_k hk t et ht hg x hx z hz ck, Sem.run_bind, Result.andThen_ok, Sem.run_pure]) h
theorem wpList_mapUpdate_k [DecidableEq α] (hgd : o.guard = none) (hk : KeyLaw P kt ok enc) (t et : TypeId) (m k y : Operand) (ho : o.op = .mapUpdate t m k y) (ht : P.underlying t = some (.map kt et)) {g : Nat} {l : List (α × Value)} (hg : MapK w g ok enc l)
    (x : α) (hx : ok x) (v : Value) (hm : a.eval m = .map (some g)) (he : a.eval k = enc x) (hy : a.eval y = v)
    (h : ∀ w', MapK w' g ok enc (kput l x v) → Upd g w w' → wpList P ops Q rest (a.put o.dst undef) w') : wpList P ops Q (o :: rest) a w := by
  obtain ⟨w', h1, h2, h3⟩ := run_mapUpdate_k hk t et ht hg x hx v
  refine wpList_plain hgd fun _ hK => ?_
  unfold Oper.wp execOp
  simp only [ho, hm, he, hy, h1, Sem.run_bind, Sem.run_pure, Result.andThen_ok]
  exact hK _ _ (h w' h2 h3)
theorem MapK.keptW {B : Nat} {W W' : World} {g : Nat} {l : List (α × Value)} (h : MapK W g ok enc l) (k : Kept B W W') (hg : g < B) : MapK W' g ok enc l := by obtain ⟨es, c, h1, h2⟩ := h; exact ⟨es, c, h1.keptW k hg, h2⟩
end
end Go

/- The bytes of a block of the grid, as plain lists: what they are, how they are read back. Plain facts. No condition. -/
namespace Go.Proofs.YtgkljncigbiffaaDoor
theorem Sha.sum_len (l : List UInt8) : (Sha.sum l).length = 16 := by simp [Sha.sum, Sha.out]
/-! ### Numbers of four bytes, the lowest first -/
def le4 (n : Nat) : List UInt8 := [UInt8.ofNat (n % 256), UInt8.ofNat (n / 256 % 256), UInt8.ofNat (n / 65536 % 256), UInt8.ofNat (n / 16777216 % 256)]
def un4 (a b c d : UInt8) : Nat := a.toNat + 256 * b.toNat + 65536 * c.toNat + 16777216 * d.toNat
def at4 (l : List UInt8) (p : Nat) : Nat := un4 (l.getD p 0) (l.getD (p + 1) 0) (l.getD (p + 2) 0) (l.getD (p + 3) 0)
theorem le4_length (n : Nat) : (le4 n).length = 4 := rfl
theorem toNat_ofNat' (n : Nat) (h : n < 256) : (UInt8.ofNat n).toNat = n := UInt8.toNat_ofNat_of_lt' (by simpa [UInt8.size] using h)
theorem un4_lt (a b c d : UInt8) : un4 a b c d < 4294967296 := by
  have := a.toNat_lt; have := b.toNat_lt; have := c.toNat_lt; have := d.toNat_lt
  unfold un4; omega
theorem at4_lt (l : List UInt8) (p : Nat) : at4 l p < 4294967296 := un4_lt _ _ _ _
theorem un4_le4 (n : Nat) (h : n < 4294967296) : un4 (UInt8.ofNat (n % 256)) (UInt8.ofNat (n / 256 % 256)) (UInt8.ofNat (n / 65536 % 256)) (UInt8.ofNat (n / 16777216 % 256)) = n := by
  unfold un4
  rw [toNat_ofNat' _ (Nat.mod_lt _ (by omega)), toNat_ofNat' _ (Nat.mod_lt _ (by omega)), toNat_ofNat' _ (Nat.mod_lt _ (by omega)), toNat_ofNat' _ (Nat.mod_lt _ (by omega))]
  omega
theorem getD_app (a b : List UInt8) (k : Nat) : (a ++ b).getD (a.length + k) 0 = b.getD k 0 := by
  simp only [List.getD_eq_getElem?_getD]; rw [List.getElem?_append_right (by omega), Nat.add_sub_cancel_left]
theorem at4_app (a b : List UInt8) (p : Nat) : at4 (a ++ b) (a.length + p) = at4 b p := by
  unfold at4
  rw [Nat.add_assoc, Nat.add_assoc, Nat.add_assoc, getD_app, getD_app, getD_app, getD_app]
theorem at4_app' (a b : List UInt8) (p q : Nat) (h : q = a.length + p) : at4 (a ++ b) q = at4 b p := h ▸ at4_app a b p
theorem at4_le4 (n : Nat) (h : n < 4294967296) (r : List UInt8) : at4 (le4 n ++ r) 0 = n := by
  unfold at4 le4
  simp only [List.cons_append, List.nil_append]
  exact un4_le4 n h
/-! ### A block -/
abbrev RefT := Int × Int × Unit
abbrev GBT := Int × RefT × List RefT × List UInt8 × Unit
def refOk (r : RefT) : Bool := decide (1 ≤ r.1) && decide (r.1 ≤ 512) && decide (0 ≤ r.2.1) && decide (r.2.1 ≤ 1073741824)
def GB.ref (b : GBT) : RefT := b.2.1
def GB.refs (b : GBT) : List RefT := b.2.2.1
def GB.body (b : GBT) : List UInt8 := b.2.2.2.1
def GB.ok (b : GBT) : Bool := decide (1 ≤ b.1) && decide (b.1 ≤ 15) && refOk b.2.1 && decide (b.2.2.1.length ≤ 16) && decide (b.2.2.2.1.length ≤ 860) && b.2.2.1.all refOk
def refBytes (r : RefT) : List UInt8 := le4 r.1.toNat ++ le4 r.2.1.toNat
def refsBytes (l : List RefT) : List UInt8 := l.flatMap refBytes
/-- What stands behind a block's seal. -/
def GB.head (b : GBT) : List UInt8 := le4 b.1.toNat ++ (le4 b.2.1.1.toNat ++ (le4 b.2.1.2.1.toNat ++ (le4 b.2.2.1.length ++ le4 b.2.2.2.1.length)))
def GB.tail (b : GBT) : List UInt8 := b.2.2.2.1 ++ List.replicate (860 - b.2.2.2.1.length) 0
def GB.rest (b : GBT) : List UInt8 := GB.head b ++ (refsBytes b.2.2.1 ++ (List.replicate (128 - 8 * b.2.2.1.length) 0 ++ GB.tail b))
def GB.bytes (b : GBT) : List UInt8 := Sha.sum (GB.rest b) ++ GB.rest b
theorem refsBytes_length (l : List RefT) : (refsBytes l).length = 8 * l.length := by
  induction l with
  | nil => rfl
  | cons r l ih => unfold refsBytes at *; rw [List.flatMap_cons, List.length_append, ih, List.length_cons]; simp [refBytes, le4_length]; omega
theorem GB.ok_spec {b : GBT} (h : GB.ok b = true) : (1 ≤ b.1 ∧ b.1 ≤ 15) ∧ refOk b.2.1 = true ∧ b.2.2.1.length ≤ 16 ∧ b.2.2.2.1.length ≤ 860 ∧ ∀ r ∈ b.2.2.1, refOk r = true := by
  simp only [GB.ok, Bool.and_eq_true, decide_eq_true_eq, List.all_eq_true] at h
  obtain ⟨⟨⟨⟨⟨h1, h2⟩, h3⟩, h4⟩, h5⟩, h6⟩ := h
  exact ⟨⟨h1, h2⟩, h3, h4, h5, h6⟩
theorem refOk_spec {r : RefT} (h : refOk r = true) : 1 ≤ r.1 ∧ r.1 ≤ 512 ∧ 0 ≤ r.2.1 ∧ r.2.1 ≤ 1073741824 := by
  simp only [refOk, Bool.and_eq_true, decide_eq_true_eq] at h
  exact ⟨h.1.1.1, h.1.1.2, h.1.2, h.2⟩
theorem GB.head_length (b : GBT) : (GB.head b).length = 20 := rfl
theorem GB.tail_length (b : GBT) (h : b.2.2.2.1.length ≤ 860) : (GB.tail b).length = 860 := by
  unfold GB.tail; rw [List.length_append, List.length_replicate]; omega
theorem GB.rest_length (b : GBT) (h1 : b.2.2.1.length ≤ 16) (h2 : b.2.2.2.1.length ≤ 860) : (GB.rest b).length = 1008 := by
  unfold GB.rest
  rw [List.length_append, List.length_append, List.length_append, GB.head_length, refsBytes_length, List.length_replicate, GB.tail_length b h2]; omega
theorem GB.bytes_length (b : GBT) (h1 : b.2.2.1.length ≤ 16) (h2 : b.2.2.2.1.length ≤ 860) : (GB.bytes b).length = 1024 := by
  unfold GB.bytes; rw [List.length_append, Sha.sum_len, GB.rest_length b h1 h2]
/-- What the bytes of a block say. -/
def GB.parse (raw : List UInt8) : GBT :=
  ((at4 raw 16 : Int), ((at4 raw 20 : Int), (at4 raw 24 : Int), ()), (List.range (at4 raw 28)).map (fun i => ((at4 raw (36 + 8 * i) : Int), (at4 raw (36 + 8 * i + 4) : Int), ())), (raw.drop 164).take (at4 raw 32), ())
def GB.none_ : GBT := (0, (0, 0, ()), [], [], ())
/-- Which block bytes are: the error's number, and the block. -/
def GB.read (raw : List UInt8) : Int × GBT :=
  if raw.length ≠ 1024 then (4, GB.none_)
  else if Sha.sum (raw.drop 16) ≠ raw.take 16 then (12, GB.none_)
  else if 16 < at4 raw 28 ∨ 860 < at4 raw 32 then (4, GB.none_)
  else if GB.ok (GB.parse raw) = true ∧ GB.rest (GB.parse raw) = raw.drop 16 then (0, GB.parse raw) else (4, GB.none_)
theorem at4_refs (l : List RefT) (r : List UInt8) (hok : ∀ x ∈ l, refOk x = true) : ∀ i, (h : i < l.length) → (at4 (refsBytes l ++ r) (8 * i) : Int) = l[i].1 ∧ (at4 (refsBytes l ++ r) (8 * i + 4) : Int) = l[i].2.1 := by
  induction l with
  | nil => intro i h; simp at h
  | cons x l ih =>
    intro i h
    have e : refsBytes (x :: l) ++ r = le4 x.1.toNat ++ (le4 x.2.1.toNat ++ (refsBytes l ++ r)) := by simp [refsBytes, refBytes]
    rw [e]
    obtain ⟨h1, h2, h3, h4⟩ := refOk_spec (hok x (by simp))
    cases i with
    | zero =>
      refine ⟨?_, ?_⟩
      · rw [Nat.mul_zero, at4_le4 _ (by omega)]; simp; omega
      · rw [at4_app' _ _ 0 _ (by simp [le4_length]), at4_le4 _ (by omega)]; simp; omega
    | succ i =>
      obtain ⟨e1, e2⟩ := ih (fun x hx => hok x (by simp [hx])) i (by simpa using h)
      refine ⟨?_, ?_⟩
      · rw [at4_app' _ _ (8 * i + 4) _ (by simp [le4_length]; omega), at4_app' _ _ (8 * i) _ (by simp [le4_length]; omega), e1]; simp
      · rw [at4_app' _ _ (8 * i + 8) _ (by simp [le4_length]; omega), at4_app' _ _ (8 * i + 4) _ (by simp [le4_length]; omega), e2]; simp
theorem GB.parse_bytes (b : GBT) (h : GB.ok b = true) : GB.parse (GB.bytes b) = b := by
  obtain ⟨⟨k1, k2⟩, hr, hn, hb, hall⟩ := GB.ok_spec h
  obtain ⟨r1, r2, r3, r4⟩ := refOk_spec hr
  obtain ⟨kind, ⟨addr, stamp, ⟨⟩⟩, refs, body, ⟨⟩⟩ := b
  simp only at k1 k2 r1 r2 r3 r4 hn hb hall
  have e0 : GB.bytes (kind, (addr, stamp, ()), refs, body, ()) = Sha.sum (GB.rest (kind, (addr, stamp, ()), refs, body, ())) ++ (le4 kind.toNat ++ (le4 addr.toNat ++ (le4 stamp.toNat ++ (le4 refs.length ++ (le4 body.length ++ (refsBytes refs ++ (List.replicate (128 - 8 * refs.length) 0 ++ (body ++ List.replicate (860 - body.length) 0)))))))) := by
    simp [GB.bytes, GB.rest, GB.head, GB.tail]
  generalize Sha.sum (GB.rest (kind, (addr, stamp, ()), refs, body, ())) = S at e0
  have hS : ∃ S : List UInt8, S.length = 16 ∧ GB.bytes (kind, (addr, stamp, ()), refs, body, ()) = S ++ (le4 kind.toNat ++ (le4 addr.toNat ++ (le4 stamp.toNat ++ (le4 refs.length ++ (le4 body.length ++ (refsBytes refs ++ (List.replicate (128 - 8 * refs.length) 0 ++ (body ++ List.replicate (860 - body.length) 0)))))))) :=
    ⟨Sha.sum (GB.rest (kind, (addr, stamp, ()), refs, body, ())), Sha.sum_len _, by simp [GB.bytes, GB.rest, GB.head, GB.tail]⟩
  clear e0 S
  obtain ⟨S, hS, e⟩ := hS
  rw [e]
  have a16 : at4 (S ++ (le4 kind.toNat ++ (le4 addr.toNat ++ (le4 stamp.toNat ++ (le4 refs.length ++ (le4 body.length ++ (refsBytes refs ++ (List.replicate (128 - 8 * refs.length) 0 ++ (body ++ List.replicate (860 - body.length) 0))))))))) 16 = kind.toNat := by
    rw [at4_app' _ _ 0 _ (by omega), at4_le4 _ (by omega)]
  have a20 : at4 (S ++ (le4 kind.toNat ++ (le4 addr.toNat ++ (le4 stamp.toNat ++ (le4 refs.length ++ (le4 body.length ++ (refsBytes refs ++ (List.replicate (128 - 8 * refs.length) 0 ++ (body ++ List.replicate (860 - body.length) 0))))))))) 20 = addr.toNat := by
    rw [at4_app' _ _ 4 _ (by omega), at4_app' _ _ 0 _ (by simp [le4_length]), at4_le4 _ (by omega)]
  have a24 : at4 (S ++ (le4 kind.toNat ++ (le4 addr.toNat ++ (le4 stamp.toNat ++ (le4 refs.length ++ (le4 body.length ++ (refsBytes refs ++ (List.replicate (128 - 8 * refs.length) 0 ++ (body ++ List.replicate (860 - body.length) 0))))))))) 24 = stamp.toNat := by
    rw [at4_app' _ _ 8 _ (by omega), at4_app' _ _ 4 _ (by simp [le4_length]), at4_app' _ _ 0 _ (by simp [le4_length]), at4_le4 _ (by omega)]
  have a28 : at4 (S ++ (le4 kind.toNat ++ (le4 addr.toNat ++ (le4 stamp.toNat ++ (le4 refs.length ++ (le4 body.length ++ (refsBytes refs ++ (List.replicate (128 - 8 * refs.length) 0 ++ (body ++ List.replicate (860 - body.length) 0))))))))) 28 = refs.length := by
    rw [at4_app' _ _ 12 _ (by omega), at4_app' _ _ 8 _ (by simp [le4_length]), at4_app' _ _ 4 _ (by simp [le4_length]), at4_app' _ _ 0 _ (by simp [le4_length]), at4_le4 _ (by omega)]
  have a32 : at4 (S ++ (le4 kind.toNat ++ (le4 addr.toNat ++ (le4 stamp.toNat ++ (le4 refs.length ++ (le4 body.length ++ (refsBytes refs ++ (List.replicate (128 - 8 * refs.length) 0 ++ (body ++ List.replicate (860 - body.length) 0))))))))) 32 = body.length := by
    rw [at4_app' _ _ 16 _ (by omega), at4_app' _ _ 12 _ (by simp [le4_length]), at4_app' _ _ 8 _ (by simp [le4_length]), at4_app' _ _ 4 _ (by simp [le4_length]), at4_app' _ _ 0 _ (by simp [le4_length]), at4_le4 _ (by omega)]
  have hsplit : S ++ (le4 kind.toNat ++ (le4 addr.toNat ++ (le4 stamp.toNat ++ (le4 refs.length ++ (le4 body.length ++ (refsBytes refs ++ (List.replicate (128 - 8 * refs.length) 0 ++ (body ++ List.replicate (860 - body.length) 0)))))))) = (S ++ GB.head (kind, (addr, stamp, ()), refs, body, ())) ++ (refsBytes refs ++ (List.replicate (128 - 8 * refs.length) 0 ++ (body ++ List.replicate (860 - body.length) 0))) := by
    simp [GB.head]
  have hpre : (S ++ GB.head (kind, (addr, stamp, ()), refs, body, ())).length = 36 := by rw [List.length_append, hS]; rfl
  have aref : ∀ i, (h : i < refs.length) → ∀ j, j < 8 → at4 (S ++ (le4 kind.toNat ++ (le4 addr.toNat ++ (le4 stamp.toNat ++ (le4 refs.length ++ (le4 body.length ++ (refsBytes refs ++ (List.replicate (128 - 8 * refs.length) 0 ++ (body ++ List.replicate (860 - body.length) 0))))))))) (36 + 8 * i + j) = at4 (refsBytes refs ++ (List.replicate (128 - 8 * refs.length) 0 ++ (body ++ List.replicate (860 - body.length) 0))) (8 * i + j) := by
    intro i h j hj
    rw [hsplit, at4_app' _ _ (8 * i + j) _ (by rw [hpre]; omega)]
  unfold GB.parse
  rw [a16, a20, a24, a28, a32]
  have hrefs : (List.range refs.length).map (fun i => ((at4 (S ++ (le4 kind.toNat ++ (le4 addr.toNat ++ (le4 stamp.toNat ++ (le4 refs.length ++ (le4 body.length ++ (refsBytes refs ++ (List.replicate (128 - 8 * refs.length) 0 ++ (body ++ List.replicate (860 - body.length) 0))))))))) (36 + 8 * i) : Int), (at4 (S ++ (le4 kind.toNat ++ (le4 addr.toNat ++ (le4 stamp.toNat ++ (le4 refs.length ++ (le4 body.length ++ (refsBytes refs ++ (List.replicate (128 - 8 * refs.length) 0 ++ (body ++ List.replicate (860 - body.length) 0))))))))) (36 + 8 * i + 4) : Int), ())) = refs := by
    apply List.ext_getElem
    · simp
    · intro i h1 h2
      simp only [List.getElem_map, List.getElem_range]
      obtain ⟨e1, e2⟩ := at4_refs refs (List.replicate (128 - 8 * refs.length) 0 ++ (body ++ List.replicate (860 - body.length) 0)) hall i h2
      have f1 := aref i h2 0 (by omega)
      have f2 := aref i h2 4 (by omega)
      rw [Nat.add_zero] at f1
      rw [Nat.add_zero] at f1
      rw [f1, f2, e1, e2]
  rw [hrefs]
  have hbody : ((S ++ (le4 kind.toNat ++ (le4 addr.toNat ++ (le4 stamp.toNat ++ (le4 refs.length ++ (le4 body.length ++ (refsBytes refs ++ (List.replicate (128 - 8 * refs.length) 0 ++ (body ++ List.replicate (860 - body.length) 0))))))))).drop 164).take body.length = body := by
    have e1 : S ++ (le4 kind.toNat ++ (le4 addr.toNat ++ (le4 stamp.toNat ++ (le4 refs.length ++ (le4 body.length ++ (refsBytes refs ++ (List.replicate (128 - 8 * refs.length) 0 ++ (body ++ List.replicate (860 - body.length) 0)))))))) = ((S ++ GB.head (kind, (addr, stamp, ()), refs, body, ())) ++ (refsBytes refs ++ List.replicate (128 - 8 * refs.length) 0)) ++ (body ++ List.replicate (860 - body.length) 0) := by
      rw [hsplit]; simp
    have hl : ((S ++ GB.head (kind, (addr, stamp, ()), refs, body, ())) ++ (refsBytes refs ++ List.replicate (128 - 8 * refs.length) 0)).length = 164 := by
      rw [List.length_append, hpre, List.length_append, refsBytes_length, List.length_replicate]; omega
    rw [e1, ← hl, List.drop_left, List.take_left]
  rw [hbody]
  simp only [Prod.mk.injEq, and_true]
  omega
theorem GB.read_bytes (b : GBT) (h : GB.ok b = true) : GB.read (GB.bytes b) = (0, b) := by
  obtain ⟨_, _, hn, hb, _⟩ := GB.ok_spec h
  have hp := GB.parse_bytes b h
  have e1 : (GB.bytes b).drop 16 = GB.rest b := by unfold GB.bytes; rw [← Sha.sum_len (GB.rest b), List.drop_left]
  have e2 : (GB.bytes b).take 16 = Sha.sum (GB.rest b) := by unfold GB.bytes; rw [← Sha.sum_len (GB.rest b), List.take_left]
  have e3 : at4 (GB.bytes b) 28 = b.2.2.1.length := by
    have := congrArg (fun x : GBT => x.2.2.1.length) hp
    simpa [GB.parse] using this
  have e4 : at4 (GB.bytes b) 32 = b.2.2.2.1.length ∨ at4 (GB.bytes b) 32 > 860 := by
    have := congrArg (fun x : GBT => x.2.2.2.1.length) hp
    simp only [GB.parse, List.length_take, List.length_drop, GB.bytes_length b hn hb] at this
    omega
  have e5 : at4 (GB.bytes b) 32 = b.2.2.2.1.length := by
    have hh : GB.bytes b = (Sha.sum (GB.rest b) ++ (le4 b.1.toNat ++ (le4 b.2.1.1.toNat ++ (le4 b.2.1.2.1.toNat ++ le4 b.2.2.1.length)))) ++ (le4 b.2.2.2.1.length ++ (refsBytes b.2.2.1 ++ (List.replicate (128 - 8 * b.2.2.1.length) 0 ++ GB.tail b))) := by
      conv => lhs; unfold GB.bytes
      conv => lhs; rhs; unfold GB.rest GB.head
      simp
    rw [hh, at4_app' _ _ 0 _ (by simp [le4_length, Sha.sum_len]), at4_le4 _ (by omega)]
  clear e4
  unfold GB.read
  rw [if_neg (by rw [GB.bytes_length b hn hb]; simp), e1, e2, if_neg (by simp), e3, e5, if_neg (by omega), hp, if_pos ⟨h, rfl⟩]
end Go.Proofs.YtgkljncigbiffaaDoor

/- Loads of whole arrays and structs out of the middle of a block. Plain facts. Condition: the cells are known. -/
namespace Go.Proofs.YtgkljncigbiffaaDoor
open Go.RowKit
/-- A load of a whole array or struct out of the middle of a block. -/
theorem wpList_load_mid {P : Program} {w : World} {Q : Exit → Act → World → Prop} {ops : Array Oper} {rest : List Oper} {o : Oper} {a : Act} {b off : Nat} {cs : List Value} (hb : w.rangeAt b off cs) (hgd : o.guard = none) (ty : TypeId) (x : Operand) (ho : o.op = .load ty x)
    (hx : a.eval x = .pointer (some ⟨b, off, none⟩)) (d : TypeDesc) (hu : P.underlying ty = some d) (hd : d.isRow = true) {n : Nat} (hi : (P.info? ty).map (·.size) = some n) (hn : cs.length = n)
    (h : wpList P ops Q rest (a.put o.dst (.agg cs.toArray)) w) : wpList P ops Q (o :: rest) a w :=
  wpList_run (.agg cs.toArray) hgd (by
    unfold execOp
    simp only [ho, hx, Instr.loadAt, Instr.sureAddr, Sem.run_bind, Sem.run_pure, Result.andThen_ok, run_loadVar_mid w b off ty cs d hb hu hd (hn ▸ hi)]) h
theorem range2 {w : World} {b off : Nat} {u v : Value} (h1 : w.cell? ⟨b, off, none⟩ = some u) (h2 : w.cell? ⟨b, off + 1, none⟩ = some v) : w.rangeAt b off [u, v] := fun j x hx => by
  match j with
  | 0 => simp at hx; subst hx; exact h1
  | 1 => simp at hx; subst hx; exact h2
theorem Blk.range {w : World} {b : Nat} {t : TypeId} {cs : Array Value} (h : Blk w b t cs) (o : Nat) (l : List Value) (hl : ∀ j v, l[j]? = some v → cs[o + j]? = some v) : w.rangeAt b o l := fun j v hv => h.at_ (o + j) (hl j v hv)
end Go.Proofs.YtgkljncigbiffaaDoor

/- Four bytes read as a number. Plain facts. -/
namespace Go.Proofs.YtgkljncigbiffaaDoor
open Go.RowKit
theorem or_sum (a b k : Nat) (n : Nat) (hn : n = 2 ^ k) (ha : a < n) : a ||| (b * n) = a + b * n := by
  subst hn
  rw [Nat.mul_comm, Nat.or_comm, ← Nat.two_pow_add_eq_or_of_lt ha, Nat.add_comm]
theorem i64_or_nat (a b : Nat) (ha : a < 9223372036854775808) (hb : b < 9223372036854775808) : bits .or .i64 (a : Int) (b : Int) = ((a ||| b : Nat) : Int) := by
  have h2 : a ||| b < 2 ^ 63 := Nat.or_lt_two_pow (by omega) (by omega)
  show IntKind.i64.wrap ((BitVec.ofInt 64 (a : Int) ||| BitVec.ofInt 64 (b : Int)).toNat : Int) = _
  rw [BitVec.toNat_or, ofInt_u64 a (by omega), ofInt_u64 b (by omega), IntWalk.i64_left, IntWalk.wrap64_in _ ⟨by omega, by omega⟩]
theorem or4 (x0 x1 x2 x3 : UInt8) : bits BinOp.or IntKind.i64 (bits BinOp.or IntKind.i64 (bits BinOp.or IntKind.i64 (wrap64 (iu8 x0)) (wrap64 (wrap64 (iu8 x1) * 256))) (wrap64 (wrap64 (iu8 x2) * 65536))) (wrap64 (wrap64 (iu8 x3) * 16777216)) = (un4 x0 x1 x2 x3 : Int) := by
  have h0 := x0.toNat_lt; have h1 := x1.toNat_lt; have h2 := x2.toNat_lt; have h3 := x3.toNat_lt
  unfold iu8
  rw [IntWalk.wrap64_in (x0.toNat : Int) (by omega), IntWalk.wrap64_in (x1.toNat : Int) (by omega), IntWalk.wrap64_in (x2.toNat : Int) (by omega), IntWalk.wrap64_in (x3.toNat : Int) (by omega),
    IntWalk.wrap64_in ((x1.toNat : Int) * 256) (by omega), IntWalk.wrap64_in ((x2.toNat : Int) * 65536) (by omega), IntWalk.wrap64_in ((x3.toNat : Int) * 16777216) (by omega)]
  rw [show (x1.toNat : Int) * 256 = ((x1.toNat * 256 : Nat) : Int) by simp, show (x2.toNat : Int) * 65536 = ((x2.toNat * 65536 : Nat) : Int) by simp, show (x3.toNat : Int) * 16777216 = ((x3.toNat * 16777216 : Nat) : Int) by simp]
  rw [i64_or_nat _ _ (by omega) (by omega), or_sum _ _ 8 256 (by decide) (by omega), i64_or_nat _ _ (by omega) (by omega), or_sum _ _ 16 65536 (by decide) (by omega), i64_or_nat _ _ (by omega) (by omega), or_sum _ _ 24 16777216 (by decide) (by omega)]
  unfold un4
  omega
end Go.Proofs.YtgkljncigbiffaaDoor

/- The small functions of the layer of blocks: may a ref be one; may a block; a number laid, a number read. Conditions: numbers are Go's, lists can be read. -/
namespace Go.Proofs.YtgkljncigbiffaaDoor
open Go.RowKit
set_option maxHeartbeats 400000 in
theorem place_any (a s : Int) (w : World) : Calls Tryd.prog 125 #[.agg #[.int .i64 a, .int .i64 s]] w fun e w' => e = .returned (.bool (refOk (a, s, ()))) ∧ Below w.heap.size w w' := by
  go_enter Tryd.func125, Tryd.ntmps125
  go_wp2
  all_goals
    go_ret
    refine ⟨?_, (Below.refl _ _).alloc (Nat.le_refl _) _⟩
    unfold refOk
    simp [*]
    try omega
set_option maxHeartbeats 1000000 in
theorem number_any (A : Option Addr) (c p : Nat) (l : List UInt8) (hp : p + 4 ≤ l.length) (hl : l.length ≤ 2000) (w : World) (hb : Bytes w A l) :
    Calls Tryd.prog 86 #[.slice A l.length c, .int .i64 p] w fun e w' => e = .returned (.int .i64 (at4 l p)) ∧ Below w.heap.size w w' := by
  obtain ⟨b, off, rfl, hbl, hc⟩ := hb.at_ (by omega)
  have d0 := hc p (by omega)
  have d1 := hc (p + 1) (by omega)
  have d2 := hc (p + 2) (by omega)
  have d3 := hc (p + 3) (by omega)
  clear hc hb
  unfold at4
  generalize l.getD p 0 = x0 at d0 ⊢
  generalize l.getD (p + 1) 0 = x1 at d1 ⊢
  generalize l.getD (p + 2) 0 = x2 at d2 ⊢
  generalize l.getD (p + 3) 0 = x3 at d3 ⊢
  go_enter Tryd.func86, Tryd.ntmps86
  go_wp2
  go_quiet (fail)
  rw [or4]
  go_wp2
  go_ret
  exact ⟨rfl, below_drewN (Below.refl _ _) _⟩
/-- A list of refs can be read. -/
def Refs (w : World) (A : Option Addr) (l : List RefT) : Prop :=
  0 < l.length → ∃ b off, A = some ⟨b, off, none⟩ ∧ b < w.heap.size ∧ ∀ i, (h : i < l.length) → w.cell? ⟨b, off + i * 2, none⟩ = some (.int .i64 l[i].1) ∧ w.cell? ⟨b, off + i * 2 + 1, none⟩ = some (.int .i64 l[i].2.1)
theorem Refs.below {w w' : World} {A : Option Addr} {l : List RefT} (h : Refs w A l) (hb : Below w.heap.size w w') : Refs w' A l := fun hp => by
  obtain ⟨b, off, e, hlt, hc⟩ := h hp
  exact ⟨b, off, e, Nat.lt_of_lt_of_le hlt hb.size, fun i hi => ⟨(hb.cell (p := ⟨b, off + i * 2, none⟩) hlt).trans (hc i hi).1, (hb.cell (p := ⟨b, off + i * 2 + 1, none⟩) hlt).trans (hc i hi).2⟩⟩
instance {w w' : World} {A : Option Addr} {l : List RefT} : KeepsTo w w' (Refs w A l) (Refs w' A l) := ⟨fun hb h => h.below hb⟩
theorem size_ref : (Tryd.prog.info? 33).map (·.size) = some 2 := by kernel_rfl
/-- What the look at a block answers. -/
def GB.code (b : GBT) : Int := if GB.ok b then 0 else 2
theorem GB.code_ok {b : GBT} (h : GB.ok b = true) : GB.code b = 0 := by unfold GB.code; rw [if_pos h]
theorem GB.code_no {b : GBT} (h : GB.ok b = false) : GB.code b = 2 := by unfold GB.code; rw [if_neg (by rw [h]; simp)]
/-- Ahead of each ref that is looked at. -/
def CheckRel (w : World) (l : List RefT) (v : Value) (wr : World) : Prop :=
  ∃ i : Nat, i ≤ l.length ∧ v = .int .i64 (i : Int) ∧ (∀ j, (h : j < i) → (h2 : j < l.length) → refOk l[j] = true) ∧ Below w.heap.size w wr
set_option maxHeartbeats 1000000 in
set_option maxRecDepth 100000 in
theorem check_any (k ra rs : Int) (A B : Option Addr) (c d : Nat) (l : List RefT) (body : List UInt8) (hl : l.length ≤ 1000) (hb : body.length ≤ 5000) (w : World) (hr : Refs w A l) :
    Calls Tryd.prog 87 #[.agg #[.int .i64 k, .int .i64 ra, .int .i64 rs, .slice A l.length c, .slice B body.length d]] w fun e w' => e = .returned (.int .i64 (GB.code (k, (ra, rs, ()), l, body, ()))) ∧ Below w.heap.size w w' := by
  have hB0 : Below w.heap.size w (w.alloc (.cells #[.int .i64 k, .int .i64 ra, .int .i64 rs, .slice A l.length c, .slice B body.length d] 91)) := (Below.refl _ _).alloc (Nat.le_refl _) _
  have hr0 := Refs.below hr hB0
  by_cases h1 : k < 1
  · have hok : Hid (GB.ok (k, (ra, rs, ()), l, body, ()) = false) := Lib.hid (by unfold GB.ok; simp; omega)
    go_enter Tryd.func87, Tryd.ntmps87
    go_wp2
    go_ret
    exact ⟨ret_int (GB.code_no hok.out).symm, hB0⟩
  by_cases h2 : 15 < k
  · have hok : Hid (GB.ok (k, (ra, rs, ()), l, body, ()) = false) := Lib.hid (by unfold GB.ok; simp; omega)
    go_enter Tryd.func87, Tryd.ntmps87
    go_wp2
    go_ret
    exact ⟨ret_int (GB.code_no hok.out).symm, hB0⟩
  go_enter Tryd.func87, Tryd.ntmps87
  go_wp2_with fail
  have hg := Blk.new w 91 #[.int .i64 k, .int .i64 ra, .int .i64 rs, .slice A l.length c, .slice B body.length d]
  generalize w.alloc (.cells #[.int .i64 k, .int .i64 ra, .int .i64 rs, .slice A l.length c, .slice B body.length d] 91) = w1 at hg hB0 hr0 ⊢
  refine (place_any ra rs w1).mono ?_
  rintro e w2 ⟨rfl, hbx⟩
  (replace hr0 := keep hbx hr0; replace hg := keep hbx hg; replace hB0 := hB0.trans (hbx.mono hB0.size); clear hbx)
  have d2 := hg.cell 2
  have d3 := hg.cell 3
  have d4 := hg.cell 4
  cases hplace : refOk (ra, rs, ())
  · have hok : Hid (GB.ok (k, (ra, rs, ()), l, body, ()) = false) := Lib.hid (by unfold GB.ok; simp [hplace])
    clear hplace
    go_wp2
    go_ret
    exact ⟨ret_int (GB.code_no hok.out).symm, hB0⟩
  by_cases h3 : 16 < l.length
  · have hok : Hid (GB.ok (k, (ra, rs, ()), l, body, ()) = false) := Lib.hid (by unfold GB.ok; simp; omega)
    clear hplace
    go_wp2
    go_ret
    exact ⟨ret_int (GB.code_no hok.out).symm, hB0⟩
  by_cases h4 : 860 < body.length
  · have hok : Hid (GB.ok (k, (ra, rs, ()), l, body, ()) = false) := Lib.hid (by unfold GB.ok; simp; omega)
    clear hplace
    go_wp2
    go_ret
    exact ⟨ret_int (GB.code_no hok.out).symm, hB0⟩
  have hok : Hid (GB.ok (k, (ra, rs, ()), l, body, ()) = l.all refOk) := Lib.hid (by unfold GB.ok; simp [hplace]; omega)
  clear hplace
  clear d2 d3 d4
  have d2 : w2.cell? ⟨w.heap.size, 3, none⟩ = some (.slice A l.length c) := hg.at_ 3 (by simp)
  have d3 : w2.cell? ⟨w.heap.size, 4, none⟩ = some (.slice B body.length d) := hg.at_ 4 (by simp)
  go_wp2_with fail
  go_loopw [34] (fun v wr => CheckRel w l v wr) (fun v _ => l.length - (intOf v).toNat)
  case atStart => exact ⟨0, by omega, rfl, fun j h => absurd h (by omega), hB0⟩
  case round =>
    clear d2 d3 hg hr0 hB0
    obtain ⟨i, hi, rfl, hall, hBr⟩ := hrel
    have HA := Lib.hid hall
    clear hall
    by_cases hlt : i < l.length
    · have hrr := Refs.below hr hBr
      obtain ⟨b, off, rfl, hbl, hcells⟩ := hrr (by omega)
      obtain ⟨d1, d2⟩ := hcells i hlt
      have hR := Lib.hid (show l[i] = (l[i].1, l[i].2.1, ()) from rfl)
      generalize hx : l[i].1 = x at d1 hR
      generalize hy : l[i].2.1 = y at d2 hR
      clear hx hy hcells hrr
      go_wp2_with (first
        | ((with_reducible show wpList _ _ _ ((⟨some 40, _, _, _, _, _⟩ : Oper) :: _) _ _); refine wpList_load_mid (o := ⟨some 40, _, _, _, _, _⟩) (range2 (b := b) (off := off + i * 2) (u := .int .i64 x) (v := .int .i64 y) (d1) (d2)) (by rfl) _ _ (by rfl) (by rfl) _ Tryd.underlying33 (by rfl) size_ref (by rfl) ?_)
        | fail)
      have hbz := (Below.refl wr.heap.size wr).alloc (Nat.le_refl _) (.cells #[.int .i64 x, .int .i64 y] 33)
      generalize wr.alloc (.cells #[.int .i64 x, .int .i64 y] 33) = w4 at hbz ⊢
      refine (place_any x y w4).mono ?_
      rintro e w5 ⟨rfl, hbx⟩
      have hB5 := (hBr.trans (hbz.mono hBr.size)).trans (hbx.mono (by have := hBr.size; have := hbz.size; omega))
      clear d1 d2 hbz hbx hbl
      cases hpl : refOk (x, y, ())
      · have hno : Hid (GB.ok (k, (ra, rs, ()), l, body, ()) = false) := Lib.hid (by
          rw [hok.out]
          refine List.all_eq_false.2 ⟨l[i], List.getElem_mem hlt, ?_⟩
          rw [hR.out, hpl]; simp)
        clear hpl
        go_wp2
        go_ret
        exact ⟨ret_int (GB.code_no hno.out).symm, hB5⟩
      · have hPL := Lib.hid hpl
        clear hpl
        go_wp2
        go_roundw
        case rel => exact ⟨i + 1, by omega, by go_num, fun j hj h2 => by
          rcases Nat.lt_or_ge j i with h | h
          · exact HA.out j h h2
          · obtain rfl : j = i := by omega
            rw [hR.out]; exact hPL.out, hB5⟩
        case measure => simp [intOf]; omega
    · obtain rfl : i = l.length := by omega
      have hyes : Hid (GB.ok (k, (ra, rs, ()), l, body, ()) = true) := Lib.hid (by
        rw [hok.out]
        exact List.all_eq_true.2 fun r hr => by
          obtain ⟨j, hj, rfl⟩ := List.mem_iff_getElem.1 hr
          exact HA.out j hj hj)
      go_wp2
      go_ret
      exact ⟨ret_int (GB.code_ok hyes.out).symm, hBr⟩
end Go.Proofs.YtgkljncigbiffaaDoor

/- Four bytes of a number laid at a place of a list. Plain facts. -/
namespace Go.Proofs.YtgkljncigbiffaaDoor
open Go.RowKit
def put4 (L : List UInt8) (off n : Nat) : List UInt8 := L.take off ++ (le4 n ++ L.drop (off + 4))
def put4r (L : List UInt8) (off n j : Nat) : List UInt8 := L.take off ++ ((le4 n).take j ++ L.drop (off + j))
theorem put4r_zero (L : List UInt8) (off n : Nat) : put4r L off n 0 = L := by unfold put4r; simp
theorem put4r_length (L : List UInt8) (off n j : Nat) (h : off + 4 ≤ L.length) (hj : j ≤ 4) : (put4r L off n j).length = L.length := by
  unfold put4r; rw [List.length_append, List.length_append, List.length_take, List.length_take, List.length_drop, le4_length]; omega
theorem put4r_set (L : List UInt8) (off n j : Nat) (h : off + 4 ≤ L.length) (hj : j < 4) (b : UInt8) (hb : b = (le4 n).getD j 0) :
    ((put4r L off n j).map u8v).toArray.setIfInBounds (off + j) (.int .u8 (iu8 b)) = ((put4r L off n (j + 1)).map u8v).toArray := by
  apply Array.ext'
  simp only [List.setIfInBounds_toArray]
  have e : Value.int .u8 (iu8 b) = u8v b := rfl
  rw [e, ← List.map_set]
  congr 1
  subst hb
  unfold put4r
  have h1 : (L.take off).length = off := by rw [List.length_take]; omega
  rw [List.set_append_right _ _ (by omega), h1, Nat.add_sub_cancel_left]
  congr 1
  have h2 : ((le4 n).take j).length = j := by rw [List.length_take, le4_length]; omega
  rw [List.set_append_right _ _ (by omega), h2, Nat.sub_self]
  have hd : L.drop (off + j) = L[off + j]'(by omega) :: L.drop (off + (j + 1)) := by
    rw [List.drop_eq_getElem_cons (by omega)]; rfl
  rw [hd, List.set_cons_zero]
  have ht : (le4 n).take (j + 1) = (le4 n).take j ++ [(le4 n).getD j 0] := by
    rw [List.take_succ_eq_append_getElem (by rw [le4_length]; omega)]
    congr 2
    simp [List.getD, show j < (le4 n).length by rw [le4_length]; omega]
  rw [ht]; simp
theorem le4_v0 (n : Nat) : (n : Int) % 256 = iu8 ((le4 n).getD 0 0) := by show _ = iu8 (UInt8.ofNat (n % 256)); rw [iu8_ofNat_mod]
theorem le4_v1 (n : Nat) : (n : Int) / 256 % 256 = iu8 ((le4 n).getD 1 0) := by show _ = iu8 (UInt8.ofNat (n / 256 % 256)); rw [iu8_ofNat_mod]; omega
theorem le4_v2 (n : Nat) : (n : Int) / 65536 % 256 = iu8 ((le4 n).getD 2 0) := by show _ = iu8 (UInt8.ofNat (n / 65536 % 256)); rw [iu8_ofNat_mod]; omega
theorem le4_v3 (n : Nat) (h : n < 4294967296) : (n : Int) / 16777216 = iu8 ((le4 n).getD 3 0) := by show _ = iu8 (UInt8.ofNat (n / 16777216 % 256)); rw [iu8_ofNat_mod]; omega
end Go.Proofs.YtgkljncigbiffaaDoor

/- A number laid at a cursor's front. Conditions: the cursor lies in a block of bytes, with room for four. -/
namespace Go.Proofs.YtgkljncigbiffaaDoor
open Go.RowKit
/-- Ahead of each byte. -/
def FourRel (w : World) (g off n : Nat) (t : TypeId) (L : List UInt8) (v : Value) (wr : World) : Prop :=
  ∃ j : Nat, j ≤ 4 ∧ v = .int .i64 (j : Int) ∧ Blk wr g t ((put4r L off n j).map u8v).toArray ∧ Upd g w wr
set_option maxHeartbeats 1000000 in
theorem gbFour_any (g off len cap n : Nat) (t : TypeId) (L : List UInt8) (h4 : 4 ≤ len) (hL : off + 4 ≤ L.length) (hn : n < 4294967296) (w : World) (hb : Blk w g t (L.map u8v).toArray) :
    Calls Tryd.prog 126 #[.slice (some ⟨g, off, none⟩) len cap, .int .i64 n] w fun e w' =>
      e = .returned (.slice (some ⟨g, (if cap = 4 then off else off + 4), none⟩) (len - 4) (cap - 4)) ∧ Blk w' g t ((put4 L off n).map u8v).toArray ∧ Upd g w w' := by
  go_enter Tryd.func126, Tryd.ntmps126
  go_wp2
  go_loopw [6] (fun v wr => FourRel w g off n t L v wr) (fun v _ => 4 - (intOf v).toNat)
  case atStart => exact ⟨0, by omega, rfl, by rw [put4r_zero]; exact hb, Upd.refl _ _⟩
  case round =>
    obtain ⟨j, hj, rfl, hg, hu⟩ := hrel
    clear hb
    by_cases hlt : j < 4
    · have fz := hg.frozen (off + j)
      have hjl : off + j < (put4r L off n j).length := by rw [put4r_length L off n j hL (by omega)]; omega
      have dz : ∃ v, wr.cell? ⟨g, off + j, none⟩ = some v := ⟨_, (hg.cell (off + j)).trans (by rw [List.getElem?_toArray, List.getElem?_map, List.getElem?_eq_getElem hjl]; rfl)⟩
      obtain ⟨v, dz⟩ := dz
      have hs := put4r_set L off n j hL hlt _ rfl
      have ho := hg.set_ (off + j) (.int .u8 (iu8 ((le4 n).getD j 0)))
      rw [hs] at ho
      have HO := Lib.hid ho
      have hu' := Lib.hid (hu.set (off + j) (.int .u8 (iu8 ((le4 n).getD j 0))))
      clear hs ho hjl hg
      have hcase : j = 0 ∨ j = 1 ∨ j = 2 ∨ j = 3 := by omega
      rcases hcase with rfl | rfl | rfl | rfl
      · rw [Nat.add_zero] at fz dz
        go_wp2
        rw [le4_v0]
        exact ⟨⟨1, by omega, rfl, HO.out, hu'.out⟩, by simp [intOf]⟩
      · go_wp2
        rw [le4_v1]
        exact ⟨⟨2, by omega, rfl, HO.out, hu'.out⟩, by simp [intOf]⟩
      · go_wp2
        rw [le4_v2]
        exact ⟨⟨3, by omega, rfl, HO.out, hu'.out⟩, by simp [intOf]⟩
      · go_wp2
        rw [le4_v3 n hn]
        exact ⟨⟨4, by omega, rfl, HO.out, hu'.out⟩, by simp [intOf]⟩
    · obtain rfl : j = 4 := by omega
      have HG := Lib.hid hg
      clear hg
      go_wp2
      all_goals
        go_ret
        first
          | exact ⟨by rw [if_pos ‹_›]; rfl, HG.out, hu⟩
          | exact ⟨rfl, HG.out, hu⟩
end Go.Proofs.YtgkljncigbiffaaDoor

/- A variable of 1,024 bytes: its noughts. No condition. -/
namespace Go.Proofs.YtgkljncigbiffaaDoor
open Go.RowKit
def zero1024 : Array Value := arr 1024 fun _ => .int .u8 0
theorem size1024 : (Tryd.prog.info? 161).map (·.size) = some 1024 := by kernel_rfl
theorem alloc1024 (w : World) : (zeroValue 161).run Tryd.prog w = .ok (.agg zero1024) w := by
  have h : (Tryd.prog.info? 161).map (fun i => (i.zero, i.size)) = some (some (.agg zero1024), 1024) := by kernel_rfl
  exact (zero_of_info h).1 w
theorem idx5 (x0 x1 x2 x3 x4 : Value) (w : World) : (Instr.index 192 (.agg #[x0, x1, x2, x3, x4]) (.int .i64 0)).run Tryd.prog w = .ok x0 w ∧ (Instr.index 192 (.agg #[x0, x1, x2, x3, x4]) (.int .i64 1)).run Tryd.prog w = .ok x1 w ∧ (Instr.index 192 (.agg #[x0, x1, x2, x3, x4]) (.int .i64 2)).run Tryd.prog w = .ok x2 w ∧ (Instr.index 192 (.agg #[x0, x1, x2, x3, x4]) (.int .i64 3)).run Tryd.prog w = .ok x3 w ∧ (Instr.index 192 (.agg #[x0, x1, x2, x3, x4]) (.int .i64 4)).run Tryd.prog w = .ok x4 w :=
  ⟨by kernel_rfl, by kernel_rfl, by kernel_rfl, by kernel_rfl, by kernel_rfl⟩
end Go.Proofs.YtgkljncigbiffaaDoor

/- copy(d, s), d in an own block of bytes from a place on. Plain facts over any program. No condition. -/
namespace Go
open Go.RowKit
/-- copy(d, s), d in an own block of bytes from a place on. -/
theorem wpList_copy_at {P : Program} {w : World} {ops : Array Oper} {rest : List Oper} {o : Oper} {a : Act} {Q : Exit → Act → World → Prop} (hgd : o.guard = none) (d s : Operand) (dT sT : TypeId)
    (ho : o.op = .call { callee := .builtin .copy, args := #[d, s], argTypes := #[dT, sT] }) (elem : TypeId) (hu : P.underlying dT = some (.slice elem)) (hsz : (P.info? elem).map (·.size) = some 1)
    (g off dLen dCap : Nat) (A : Option Addr) (sLen sCap : Nat) (hd : a.eval d = .slice (some ⟨g, off, none⟩) dLen dCap) (hs : a.eval s = .slice A sLen sCap)
    (cur l : List UInt8) (t : TypeId) (hg : Blk w g t (cur.map u8v).toArray) (hn : l.length = sLen) (hb : Bytes w A l) (hfit : off + l.length ≤ cur.length) (hfit2 : l.length ≤ dLen)
    (h : ∀ w', Blk w' g t ((cur.take off ++ (l ++ cur.drop (off + l.length))).map u8v).toArray → Upd g w w' → wpList P ops Q rest (a.put o.dst (goInt l.length)) w') : wpList P ops Q (o :: rest) a w := by
  by_cases h0 : l.length = 0
  · obtain rfl : l = [] := List.eq_nil_of_length_eq_zero h0
    simp at hn
    subst hn
    refine wpList_copy_nothing hgd d s dT sT ho elem hu hsz _ A dLen dCap 0 sCap hd hs (by simp) ?_
    exact h w (by simpa using hg) ⟨rfl, rfl, rfl, rfl, fun _ _ => rfl⟩
  · obtain ⟨b, soff, rfl, _, hc⟩ := hb.at_ (by omega)
    have := wpList_copy_own (Q := Q) (rest := rest) (ops := ops) (w := w) hgd d s dT sT ho elem hu hsz g off dLen dCap ⟨b, soff, none⟩ sLen sCap hd hs (cur.map u8v).toArray t hg (l.map u8v) (by rw [List.length_map, hn]; exact (Nat.min_eq_left (by omega)).symm)
      (fun j v hv => by
        have hj : j < l.length := by
          rcases Nat.lt_or_ge j l.length with h1 | h1
          · exact h1
          · simp [List.getElem?_eq_none h1] at hv
        have h2 := hc j hj
        simp [hj] at hv
        rw [Addr.add_lit, h2, ← hv]; simp [u8v, hj]) (by simpa using hfit) (u8v_one l)
    refine this ?_
    have e1 : ((((cur.map u8v).toArray.toList.take off) ++ (l.map u8v ++ (cur.map u8v).toArray.toList.drop (off + (l.map u8v).length))).toArray) = ((cur.take off ++ (l ++ cur.drop (off + l.length))).map u8v).toArray := by simp
    rw [e1]
    have e2 : ((l.map u8v).length : Int) = (l.length : Int) := by simp
    rw [e2]
    exact h _ (hg.setRow _) (Upd.setRow _ _ _)
end Go

/- A block's bytes, as the program lays them. Conditions: the block may be, its lists can be read. -/
namespace Go
open Go.RowKit
namespace Proofs.YtgkljncigbiffaaDoor
theorem arr_const (n : Nat) (v : Value) : arr n (fun _ => v) = (List.replicate n v).toArray := by
  apply Array.ext_getElem?; intro i
  rw [arr_get, List.getElem?_toArray, List.getElem?_replicate]
theorem zero1024_list : zero1024 = ((List.replicate 1024 (0 : UInt8)).map u8v).toArray := by
  rw [List.map_replicate]; exact arr_const 1024 _
/-- A list of 1,024 bytes of which the first are these, the others noughts. -/
def pad (P : List UInt8) : List UInt8 := P ++ List.replicate (1024 - P.length) 0
theorem pad_length (P : List UInt8) (h : P.length ≤ 1024) : (pad P).length = 1024 := by unfold pad; rw [List.length_append, List.length_replicate]; omega
theorem pad_put (P : List UInt8) (n : Nat) (h : P.length + 4 ≤ 1024) : put4 (pad P) P.length n = pad (P ++ le4 n) := by
  unfold put4 pad
  rw [List.take_left, List.drop_append, List.drop_of_length_le (by omega), List.nil_append, List.drop_replicate, List.length_append, le4_length, List.append_assoc]
  congr 3
  omega
theorem pad_zero : List.replicate 1024 (0 : UInt8) = pad (List.replicate 16 0) := by unfold pad; rw [List.length_replicate, List.replicate_append_replicate]
/-- The numbers ahead of the refs. -/
def GB.nums (b : GBT) : List Nat := [b.1.toNat, b.2.1.1.toNat, b.2.1.2.1.toNat, b.2.2.1.length, b.2.2.2.1.length]
def numsBytes (l : List Nat) : List UInt8 := l.flatMap le4
theorem numsBytes_length (l : List Nat) : (numsBytes l).length = 4 * l.length := by
  induction l with
  | nil => rfl
  | cons n l ih => unfold numsBytes at *; rw [List.flatMap_cons, List.length_append, ih, List.length_cons, le4_length]; omega
theorem numsBytes_snoc (l : List Nat) (n : Nat) : numsBytes (l ++ [n]) = numsBytes l ++ le4 n := by unfold numsBytes; simp
theorem GB.head_nums (b : GBT) : numsBytes (GB.nums b) = GB.head b := by unfold numsBytes GB.nums GB.head; simp
theorem refsBytes_snoc (l : List RefT) (r : RefT) : refsBytes (l ++ [r]) = refsBytes l ++ (le4 r.1.toNat ++ le4 r.2.1.toNat) := by unfold refsBytes refBytes; simp
/-- What the call's own blocks hold: the block in its box, the result's noughts, the bytes so far. -/
structure LInv (w0 : World) (bx : Array Value) (L : List UInt8) (wr : World) : Prop where
  box : Blk wr w0.heap.size 91 bx
  res : Blk wr (w0.heap.size + 1) 161 zero1024
  raw : Blk wr (w0.heap.size + 1 + 1) 161 (L.map u8v).toArray
  bel : Below w0.heap.size w0 wr
theorem LInv.upd {w0 : World} {bx : Array Value} {L L' : List UInt8} {wr w' : World} (h : LInv w0 bx L wr) (u : Upd (w0.heap.size + 1 + 1) wr w') (hg : Blk w' (w0.heap.size + 1 + 1) 161 (L'.map u8v).toArray) : LInv w0 bx L' w' :=
  ⟨h.box.upd u (by omega), h.res.upd u (by omega), hg, h.bel.upd u (by omega)⟩
theorem LInv.below {w0 : World} {bx : Array Value} {L : List UInt8} {wr w' : World} (h : LInv w0 bx L wr) (hb : Below wr.heap.size wr w') : LInv w0 bx L w' :=
  ⟨keep hb h.box, keep hb h.res, keep hb h.raw, h.bel.trans (hb.mono h.bel.size)⟩
theorem LInv.drew {w0 : World} {bx : Array Value} {L : List UInt8} {wr : World} (h : LInv w0 bx L wr) : LInv w0 bx L wr.drew := ⟨h.box, h.res, h.raw, h.bel.drew⟩
instance {w0 : World} {bx : Array Value} {L : List UInt8} {w w' : World} : KeepsTo w w' (LInv w0 bx L w) (LInv w0 bx L w') := ⟨fun hb h => h.below hb⟩
def NumRel (w : World) (bx : Array Value) (b : GBT) (v v26 : Value) (wr : World) : Prop :=
  ∃ i : Nat, i ≤ 5 ∧ v26 = .int .i64 (i : Int) ∧ v = .slice (some ⟨w.heap.size + 1 + 1, 16 + 4 * i, none⟩) (1008 - 4 * i) (1008 - 4 * i) ∧ LInv w bx (pad (List.replicate 16 0 ++ numsBytes ((GB.nums b).take i))) wr
def RefRel (w : World) (bx : Array Value) (b : GBT) (v v37 : Value) (wr : World) : Prop :=
  ∃ i o : Nat, i ≤ b.2.2.1.length ∧ (i < 16 → o = 36 + 8 * i) ∧ v37 = .int .i64 (i : Int) ∧ v = .slice (some ⟨w.heap.size + 1 + 1, o, none⟩) (128 - 8 * i) (128 - 8 * i) ∧ LInv w bx (pad (List.replicate 16 0 ++ (GB.head b ++ refsBytes (b.2.2.1.take i)))) wr
set_option maxHeartbeats 2000000 in
set_option maxRecDepth 100000 in
theorem laid_any (k ra rs : Nat) (A B : Option Addr) (c d : Nat) (l : List RefT) (body : List UInt8) (hok : GB.ok ((k : Int), ((ra : Int), (rs : Int), ()), l, body, ()) = true) (w : World) (hr : Refs w A l) (hb : Bytes w B body) :
    Calls Tryd.prog 88 #[.agg #[.int .i64 k, .int .i64 ra, .int .i64 rs, .slice A l.length c, .slice B body.length d]] w fun e w' =>
      e = .returned (.agg ((GB.bytes ((k : Int), ((ra : Int), (rs : Int), ()), l, body, ())).map u8v).toArray) ∧ Below w.heap.size w w' := by
  obtain ⟨⟨k1, k2⟩, hrf, hn, hbl, hall⟩ := GB.ok_spec hok
  obtain ⟨r1, r2, r3, r4⟩ := refOk_spec hrf
  simp only at k1 k2 r1 r2 r3 r4 hn hbl hall
  have HOK := Lib.hid hok
  have HALL := Lib.hid hall
  clear hok hrf hall
  obtain ⟨b, hbd⟩ : ∃ b : GBT, b = ((k : Int), ((ra : Int), (rs : Int), ()), l, body, ()) := ⟨_, rfl⟩
  rw [← hbd] at HOK ⊢
  have HBD := Lib.hid hbd
  clear hbd
  have a1024 := alloc1024
  have hL : LInv w #[.int .i64 k, .int .i64 ra, .int .i64 rs, .slice A l.length c, .slice B body.length d] (pad (List.replicate 16 0 ++ numsBytes ((GB.nums b).take 0))) (((w.alloc (.cells #[.int .i64 k, .int .i64 ra, .int .i64 rs, .slice A l.length c, .slice B body.length d] 91)).alloc (.cells zero1024 161)).alloc (.cells zero1024 161)) := by
    refine ⟨((Blk.new _ _ _).alloc _).alloc _, (Blk.new' _ _ _ (by simp)).alloc _, ?_, (((Below.refl _ _).alloc (Nat.le_refl _) _).alloc (by simp) _).alloc (by simp; omega) _⟩
    have := Blk.new' ((w.alloc (.cells #[.int .i64 k, .int .i64 ra, .int .i64 rs, .slice A l.length c, .slice B body.length d] 91)).alloc (.cells zero1024 161)) 161 zero1024 (n := w.heap.size + 1 + 1) (by simp)
    refine this.sub ?_
    rw [zero1024_list, pad_zero]; simp [numsBytes]
  go_enter Tryd.func88, Tryd.ntmps88
  go_wp2_with fail
  generalize ((w.alloc (.cells #[.int .i64 k, .int .i64 ra, .int .i64 rs, .slice A l.length c, .slice B body.length d] 91)).alloc (.cells zero1024 161)).alloc (.cells zero1024 161) = w1 at hL ⊢
  clear a1024
  go_loopw [4, 26] (fun v v26 wr => NumRel w #[.int .i64 k, .int .i64 ra, .int .i64 rs, .slice A l.length c, .slice B body.length d] b v v26 wr) (fun _ v _ => 5 - (intOf v).toNat)
  case atStart => exact ⟨0, by omega, rfl, rfl, hL⟩
  case round =>
    clear hL
    obtain ⟨i, hi, rfl, rfl, hI⟩ := hrel
    by_cases hlt : i < 5
    · have hstep : ∀ n : Nat, (GB.nums b)[i]? = some n → n < 4294967296 → Calls Tryd.prog 126 #[.slice (some ⟨w.heap.size + 1 + 1, 16 + 4 * i, none⟩) (1008 - 4 * i) (1008 - 4 * i), .int .i64 n] wr fun e w' =>
          e = .returned (.slice (some ⟨w.heap.size + 1 + 1, 16 + 4 * (i + 1), none⟩) (1008 - 4 * (i + 1)) (1008 - 4 * (i + 1))) ∧ LInv w #[.int .i64 k, .int .i64 ra, .int .i64 rs, .slice A l.length c, .slice B body.length d] (pad (List.replicate 16 0 ++ numsBytes ((GB.nums b).take (i + 1)))) w' := by
        intro n hin hn4
        have hil : i < (GB.nums b).length := by simp [GB.nums]; omega
        have hpl : (List.replicate 16 (0 : UInt8) ++ numsBytes ((GB.nums b).take i)).length = 16 + 4 * i := by
          rw [List.length_append, List.length_replicate, numsBytes_length, List.length_take]; omega
        refine (gbFour_any (w.heap.size + 1 + 1) (16 + 4 * i) (1008 - 4 * i) (1008 - 4 * i) n _ _ (by omega) (by rw [pad_length _ (by rw [hpl]; omega)]; omega) hn4 wr hI.raw).mono ?_
        rintro e w' ⟨rfl, hg, hu⟩
        refine ⟨?_, hI.upd hu ?_⟩
        · rw [if_neg (by omega)]
          congr 2
        · refine hg.sub ?_
          congr 2
          have := pad_put (List.replicate 16 (0 : UInt8) ++ numsBytes ((GB.nums b).take i)) n (by rw [hpl]; omega)
          rw [hpl] at this
          rw [this, List.append_assoc, ← numsBytes_snoc, List.take_succ_eq_append_getElem hil]
          congr 4
          rw [List.getElem?_eq_getElem hil] at hin
          simpa using hin.symm
      have HS := Lib.hid hstep
      clear hstep
      have hcase : i = 0 ∨ i = 1 ∨ i = 2 ∨ i = 3 ∨ i = 4 := by omega
      have hi5 := idx5 (.int .i64 k) (.int .i64 ra) (.int .i64 rs) (.int .i64 l.length) (.int .i64 body.length) wr
      rcases hcase with rfl | rfl | rfl | rfl | rfl
      · have i0 := hi5.1
        clear hi5
        go_wp2_with fail
        refine (HS.out k (by rw [HBD.out]; simp [GB.nums]) (by omega)).mono ?_
        rintro e w2 ⟨rfl, hI2⟩
        go_wp2
        exact ⟨⟨1, by omega, rfl, rfl, hI2⟩, by simp [intOf]⟩
      · have i0 := hi5.2.1
        clear hi5
        go_wp2_with fail
        refine (HS.out ra (by rw [HBD.out]; simp [GB.nums]) (by omega)).mono ?_
        rintro e w2 ⟨rfl, hI2⟩
        go_wp2
        exact ⟨⟨2, by omega, rfl, rfl, hI2⟩, by simp [intOf]⟩
      · have i0 := hi5.2.2.1
        clear hi5
        go_wp2_with fail
        refine (HS.out rs (by rw [HBD.out]; simp [GB.nums]) (by omega)).mono ?_
        rintro e w2 ⟨rfl, hI2⟩
        go_wp2
        exact ⟨⟨3, by omega, rfl, rfl, hI2⟩, by simp [intOf]⟩
      · have i0 := hi5.2.2.2.1
        clear hi5
        go_wp2_with fail
        refine (HS.out l.length (by rw [HBD.out]; simp [GB.nums]) (by omega)).mono ?_
        rintro e w2 ⟨rfl, hI2⟩
        go_wp2
        exact ⟨⟨4, by omega, rfl, rfl, hI2⟩, by simp [intOf]⟩
      · have i0 := hi5.2.2.2.2
        clear hi5
        go_wp2_with fail
        refine (HS.out body.length (by rw [HBD.out]; simp [GB.nums]) (by omega)).mono ?_
        rintro e w2 ⟨rfl, hI2⟩
        go_wp2
        exact ⟨⟨5, by omega, rfl, rfl, hI2⟩, by simp [intOf]⟩
    · obtain rfl : i = 5 := by omega
      have hI0 : LInv w #[.int .i64 k, .int .i64 ra, .int .i64 rs, .slice A l.length c, .slice B body.length d] (pad (List.replicate 16 0 ++ (GB.head b ++ refsBytes (b.2.2.1.take 0)))) wr := by
        have e : (GB.nums b).take 5 = GB.nums b := by simp [GB.nums]
        rw [e, GB.head_nums] at hI
        simpa [refsBytes] using hI
      clear hI
      have e221 : Hid (b.2.2.1 = l) := Lib.hid (by rw [HBD.out])
      have e222 : Hid (b.2.2.2.1 = body) := Lib.hid (by rw [HBD.out])
      have dx3 : wr.cell? ⟨w.heap.size, 3, none⟩ = some (.slice A l.length c) := hI0.box.at_ 3 (by simp)
      go_wp2_with fail
      clear dx3
      go_loopw [4, 37] (fun v v37 wr => RefRel w #[.int .i64 k, .int .i64 ra, .int .i64 rs, .slice A l.length c, .slice B body.length d] b v v37 wr) (fun _ v _ => l.length - (intOf v).toNat)
      case atStart => exact ⟨0, 36, by omega, fun _ => rfl, rfl, rfl, hI0⟩
      case round =>
        clear hI0
        obtain ⟨i, o, hi, ho, rfl, rfl, hI⟩ := hrel
        rw [e221.out] at hi
        by_cases hlt : i < l.length
        · obtain rfl : o = 36 + 8 * i := ho (by omega)
          have hrr := Refs.below hr hI.bel
          obtain ⟨rb, roff, rfl, hrb, hcells⟩ := hrr (by omega)
          obtain ⟨d1, d2⟩ := hcells i hlt
          have hri := refOk_spec (HALL.out l[i] (List.getElem_mem hlt))
          obtain ⟨x, hx⟩ : ∃ x : Nat, l[i].1 = (x : Int) := ⟨l[i].1.toNat, by omega⟩
          obtain ⟨y, hy⟩ : ∃ y : Nat, l[i].2.1 = (y : Int) := ⟨l[i].2.1.toNat, by omega⟩
          have HR : Hid (b.2.2.1.take (i + 1) = b.2.2.1.take i ++ [((x : Int), (y : Int), ())]) := Lib.hid (by
            rw [e221.out, List.take_succ_eq_append_getElem hlt, ← hx, ← hy])
          rw [hx] at d1 hri
          rw [hy] at d2 hri
          clear hx hy hcells hrr
          go_wp2_with (first
            | ((with_reducible show wpList _ _ _ ((⟨some 40, _, _, _, _, _⟩ : Oper) :: _) _ _); refine wpList_load_mid (o := ⟨some 40, _, _, _, _, _⟩) (range2 (b := rb) (off := roff + i * 2) (u := .int .i64 x) (v := .int .i64 y) (d1) (d2)) (by rfl) _ _ (by rfl) (by rfl) _ Tryd.underlying33 (by rfl) size_ref (by rfl) ?_)
            | fail)
          have hgr := Blk.new wr 33 #[.int .i64 x, .int .i64 y]
          have hI4 : LInv w #[.int .i64 k, .int .i64 ra, .int .i64 rs, .slice (some ⟨rb, roff, none⟩) l.length c, .slice B body.length d] (pad (List.replicate 16 0 ++ (GB.head b ++ refsBytes (b.2.2.1.take i)))) (wr.alloc (.cells #[.int .i64 x, .int .i64 y] 33)) := hI.below ((Below.refl _ _).alloc (Nat.le_refl _) _)
          have hne : w.heap.size + 1 + 1 ≠ wr.heap.size := by have := hI.raw.lt; omega
          generalize wr.alloc (.cells #[.int .i64 x, .int .i64 y] 33) = w4 at hgr hI4 ⊢
          generalize wr.heap.size = gr at hgr hne ⊢
          clear d1 d2 hrb hI ho
          have hpl : (List.replicate 16 (0 : UInt8) ++ (GB.head b ++ refsBytes (b.2.2.1.take i))).length = 36 + 8 * i := by
            rw [List.length_append, List.length_replicate, List.length_append, GB.head_length, refsBytes_length, List.length_take, e221.out]; omega
          refine wp_region_plan (fun w' => Blk w' gr 33 #[.int .i64 x, .int .i64 y]) [] [(true, 0), (true, 1), (true, 4), (true, 2), (true, 5), (false, 3), (false, 6), (false, 7)] (by kernel_rfl) (by kernel_rfl) (fun c a a' w h q => ⟨h ▸ q.1, q.2⟩) hgr.drew ?_
          refine wpPlan_pure [0, 1, 4] [(true, 2), (true, 5), (false, 3), (false, 6), (false, 7)] _ (by rfl) (by rfl) ?_
          dsimp only [List.filterMap, List.getElem?_cons_zero, List.getElem?_cons_succ]
          repeat (go_big_quiet_step (fail))
          refine wpQuiet_nil ?_
          refine wpPlan_takeL [2, 5] [(false, 3), (false, 6), (false, 7)] _ (by rfl) (by rfl) hgr.drew ?_
          dsimp only [List.filterMap, List.getElem?_cons_zero, List.getElem?_cons_succ]
          (refine wpQuiet_load_cell (fun w' hw' => Blk.at_ (v := .int .i64 x) hw' 0 (by simp)) (by rfl) _ _ (by rfl) (by rfl) _ Tryd.underlying3 (by rfl) ?_; simp only [Act.put, List.setIfInBounds_toArray, List.set_cons_zero, List.set_cons_succ])
          (refine wpQuiet_load_cell (fun w' hw' => Blk.at_ (v := .int .i64 y) hw' 1 (by simp)) (by rfl) _ _ (by rfl) (by rfl) _ Tryd.underlying3 (by rfl) ?_; simp only [Act.put, List.setIfInBounds_toArray, List.set_cons_zero, List.set_cons_succ])
          refine wpQuiet_nil ?_
          refine wpPlan_forceL _ rfl ?_
          go_wp2_with fail
          refine (gbFour_any (w.heap.size + 1 + 1) (36 + 8 * i) (128 - 8 * i) (128 - 8 * i) x _ _ (by omega) (by rw [pad_length _ (by rw [hpl]; omega)]; omega) (by omega) w4.drew hI4.drew.raw).mono ?_
          rintro e w5 ⟨rfl, hg5, hu5⟩
          have hpp := pad_put (List.replicate 16 (0 : UInt8) ++ (GB.head b ++ refsBytes (b.2.2.1.take i))) x (by rw [hpl]; omega)
          rw [hpl] at hpp
          rw [hpp] at hg5
          have hI5 := hI4.drew.upd hu5 hg5
          have hgr5 := hgr.drew.upd hu5 (Ne.symm hne)
          clear hg5 hu5 hI4 hgr hpp
          rw [if_neg (by omega)]
          go_wp2_with fail
          refine PlanQ.in_ hgr5 ?_
          refine wpPlan_forceL _ rfl ?_
          have hpl5 : (List.replicate 16 (0 : UInt8) ++ (GB.head b ++ refsBytes (b.2.2.1.take i)) ++ le4 x).length = 36 + 8 * i + 4 := by
            rw [List.length_append, hpl, le4_length]
          go_wp2_with fail
          refine (gbFour_any (w.heap.size + 1 + 1) (36 + 8 * i + 4) (128 - 8 * i - 4) (128 - 8 * i - 4) y _ _ (by omega) (by rw [pad_length _ (by rw [hpl5]; omega)]; omega) (by omega) w5 hI5.raw).mono ?_
          rintro e w6 ⟨rfl, hg6, hu6⟩
          have hpp := pad_put (List.replicate 16 (0 : UInt8) ++ (GB.head b ++ refsBytes (b.2.2.1.take i)) ++ le4 x) y (by rw [hpl5]; omega)
          rw [hpl5] at hpp
          rw [hpp] at hg6
          have hI6 := hI5.upd hu6 hg6
          have hgr6 := hgr5.upd hu6 (Ne.symm hne)
          clear hg6 hu6 hI5 hgr5 hpp
          have HI6 : Hid (LInv w #[.int .i64 k, .int .i64 ra, .int .i64 rs, .slice (some ⟨rb, roff, none⟩) l.length c, .slice B body.length d] (pad (List.replicate 16 0 ++ (GB.head b ++ refsBytes (b.2.2.1.take (i + 1))))) w6) := Lib.hid (by
            rw [HR.out, refsBytes_snoc]
            simpa using hI6)
          clear hI6
          obtain ⟨o2, ho2⟩ : ∃ o2, o2 = (if 128 - 8 * i - 4 = 4 then 36 + 8 * i + 4 else 36 + 8 * i + 4 + 4) := ⟨_, rfl⟩
          have HO2 : Hid (i + 1 < 16 → o2 = 36 + 8 * (i + 1)) := Lib.hid (fun h => by rw [ho2, if_neg (by omega)]; omega)
          rw [← ho2]
          clear ho2
          have e8 : 128 - 8 * i - 4 - 4 = 128 - 8 * (i + 1) := by omega
          rw [e8]
          clear e8
          go_wp2_with fail
          refine PlanQ.in_ hgr6 ?_
          refine wpPlan_forceL _ rfl ?_
          go_wp2_with fail
          refine PlanQ.in_ hgr6 ?_
          refine wpPlan_nil ?_
          go_wp2
          refine ⟨?_, ?_⟩
          · (repeat apply Exists.intro)
            exact ⟨⟨i + 1, o2, by rw [e221.out]; omega, HO2.out, by go_num, rfl, HI6.out⟩, rfl⟩
          · simp [intOf]; omega
        · obtain rfl : i = l.length := by omega
          have hI7 : LInv w #[.int .i64 k, .int .i64 ra, .int .i64 rs, .slice A l.length c, .slice B body.length d] (pad (List.replicate 16 0 ++ (GB.head b ++ refsBytes l))) wr := by
            rw [e221.out, List.take_length] at hI
            exact hI
          clear hI ho
          have hpl : (List.replicate 16 (0 : UInt8) ++ (GB.head b ++ refsBytes l)).length = 36 + 8 * l.length := by
            rw [List.length_append, List.length_replicate, List.length_append, GB.head_length, refsBytes_length]; omega
          go_wp2_with fail
          refine wp_region_plan (fun w' => Blk w' w.heap.size 91 #[.int .i64 k, .int .i64 ra, .int .i64 rs, .slice A l.length c, .slice B body.length d]) [] [(true, 0), (true, 1), (true, 2), (false, 3)] (by kernel_rfl) (by kernel_rfl) (fun c a a' w h q => ⟨h ▸ q.1, q.2⟩) hI7.box.drew ?_
          refine wpPlan_pure [0, 1] [(true, 2), (false, 3)] _ (by rfl) (by rfl) ?_
          dsimp only [List.filterMap, List.getElem?_cons_zero, List.getElem?_cons_succ]
          repeat (go_big_quiet_step (fail))
          refine wpQuiet_nil ?_
          refine wpPlan_takeL [2] [(false, 3)] _ (by rfl) (by rfl) hI7.box.drew ?_
          dsimp only [List.filterMap, List.getElem?_cons_zero, List.getElem?_cons_succ]
          (refine wpQuiet_load_cell (fun w' hw' => Blk.at_ (v := .slice B body.length d) hw' 4 (by simp)) (by rfl) _ _ (by rfl) (by rfl) _ Tryd.underlying22 (by rfl) ?_; simp only [Act.put, List.setIfInBounds_toArray, List.set_cons_zero, List.set_cons_succ])
          refine wpQuiet_nil ?_
          refine wpPlan_forceL _ rfl ?_
          have hbb := Bytes.below hb hI7.drew.bel
          have hI7' := hI7.drew
          clear hI7
          refine wpList_copy_at (by rfl) _ _ _ _ (by rfl) 5 Tryd.underlying22 size1 (w.heap.size + 1 + 1) 164 860 860 B body.length d (by rfl) (by rfl) _ body _ hI7'.raw rfl hbb (by rw [pad_length _ (by rw [hpl]; omega)]; omega) hbl ?_
          intro w5 hg5 hu5
          have hI5 := hI7'.upd hu5 hg5
          clear hg5 hu5 hI7' hbb
          refine wpList_nil ?_
          refine PlanQ.in_ hI5.box ?_
          refine wpPlan_nil ?_
          simp only [Act.put, List.setIfInBounds_toArray, List.set_cons_zero, List.set_cons_succ]
          have hB5 : Hid ((List.replicate 16 (0 : UInt8) ++ GB.rest b).length = 1024 ∧ LInv w #[.int .i64 k, .int .i64 ra, .int .i64 rs, .slice A l.length c, .slice B body.length d] (List.replicate 16 0 ++ GB.rest b) w5) := Lib.hid (by
            have hlen := GB.rest_length b (by rw [e221.out]; omega) (by rw [e222.out]; omega)
            refine ⟨by rw [List.length_append, hlen]; rfl, ?_⟩
            have e : (pad (List.replicate 16 0 ++ (GB.head b ++ refsBytes l))).take 164 ++ (body ++ (pad (List.replicate 16 0 ++ (GB.head b ++ refsBytes l))).drop (164 + body.length)) = List.replicate 16 0 ++ GB.rest b := by
              unfold pad GB.rest GB.tail
              rw [e221.out, e222.out, hpl]
              rw [List.take_append, List.take_of_length_le (by rw [hpl]; omega), List.take_replicate, List.drop_append, List.drop_of_length_le (by rw [hpl]; omega), List.drop_replicate, hpl]
              simp only [List.append_assoc, List.nil_append]
              congr 4
              · congr 1; omega
              · congr 2; omega
            rw [e] at hI5; exact hI5)
          clear hI5
          obtain ⟨hlen5, hI5⟩ := hB5.out
          clear hB5 hpl hi hlt hb hr
          have hLr : Bytes w5 (some ⟨w.heap.size + 1 + 1, 16, none⟩) (GB.rest b) := by
            have h := hI5.raw.bytes.drop (k := 16) (cap := 1024) (.inl (by omega))
            have e : (List.replicate 16 (0 : UInt8) ++ GB.rest b).drop 16 = GB.rest b := by
              conv => lhs; lhs; rw [show 16 = (List.replicate 16 (0 : UInt8)).length from rfl]
              exact List.drop_left ..
            rw [e] at h
            simpa [Addr.add_lit] using h
          have hl8 : (GB.rest b).length = 1008 := by rw [List.length_append, List.length_replicate] at hlen5; omega
          have HL8 := Lib.hid hl8
          have HL5 := Lib.hid hlen5
          clear hl8 hlen5
          go_wp2_with fail
          rw [show (1008 : Nat) = (GB.rest b).length from HL8.out.symm]
          refine (sum_any (some ⟨w.heap.size + 1 + 1, 16, none⟩) (GB.rest b).length (GB.rest b) (Nat.le_refl _) (by rw [HL8.out]; omega) w5 hLr).mono ?_
          rintro e w6 ⟨rfl, hbx⟩
          (replace hI5 := keep hbx hI5; clear hbx hLr)
          have hs16 := Sha.sum_length (GB.rest b)
          have HSS : Hid (GB.bytes b = Sha.sum (GB.rest b) ++ GB.rest b) := Lib.hid rfl
          obtain ⟨S, hS⟩ : ∃ S, S = Sha.sum (GB.rest b) := ⟨_, rfl⟩
          rw [← hS] at hs16 HSS ⊢
          clear hS
          have a16 := alloc16
          go_wp2_with (first
            | ((with_reducible show wpList _ _ _ ((⟨none, _, _, _, _, _⟩ : Oper) :: _) _ _); refine wpList_store_blk (o := ⟨none, _, _, _, _, _⟩) (Blk.new w6 158 zero16) (by rfl) _ _ _ (by rfl) (by rfl) (S.map u8v).toArray (by rfl) size16 (arr_size _ _) (by simp [hs16]) (u8_all _) ?_; intro w7 h7 hux; have hbx := ((Below.refl _ _).alloc (Nat.le_refl _) (.cells zero16 158)).upd hux (Nat.le_refl w6.heap.size); replace hI5 := keep hbx hI5; clear hux hbx)
            | fail)
          simp only [Act.put]
          have hne : w.heap.size + 1 + 1 ≠ w6.heap.size := fun e => by
            have h1 : Blk w7 w6.heap.size 161 _ := e ▸ hI5.raw
            have h2 := h1.symm.trans h7
            simp at h2
          refine wp_region_plan (fun w' => w' = w7.drew) [2] [(true, 0), (true, 1), (false, 2)] (by kernel_rfl) (by kernel_rfl) (fun c a a' w h q => ⟨h ▸ q.1, q.2⟩) rfl ?_
          refine wpPlan_pure [0, 1] [(false, 2)] _ (by rfl) (by rfl) ?_
          dsimp only [List.filterMap, List.getElem?_cons_zero, List.getElem?_cons_succ]
          repeat (go_big_quiet_step (fail))
          refine wpQuiet_nil ?_
          refine wpPlan_forceL _ rfl ?_
          refine wpList_copy_at (by rfl) _ _ _ _ (by rfl) 5 Tryd.underlying22 size1 (w.heap.size + 1 + 1) 0 1024 1024 (some ⟨w6.heap.size, 0, none⟩) 16 16 (by rfl) (by rfl) _ S _ hI5.drew.raw hs16 h7.drew.bytes (by rw [HL5.out, hs16]; omega) (by omega) ?_
          intro w8 hg8 hu8
          have hI8 := hI5.drew.upd hu8 hg8
          clear hg8 hu8 hI5 h7
          refine wpList_nil ?_
          refine PlanQ.out (by rfl) ?_
          refine wpPlan_nil ?_
          simp only [Act.put, List.setIfInBounds_toArray, List.set_cons_zero, List.set_cons_succ]
          have HI8 : LInv w #[.int .i64 k, .int .i64 ra, .int .i64 rs, .slice A l.length c, .slice B body.length d] (GB.bytes b) w8 := by
            have e : (List.replicate 16 (0 : UInt8) ++ GB.rest b).take 0 ++ (S ++ (List.replicate 16 (0 : UInt8) ++ GB.rest b).drop (0 + S.length)) = GB.bytes b := by
              rw [HSS.out, List.take_zero, List.nil_append, Nat.zero_add, hs16]
              congr 1
            rw [e] at hI8; exact hI8
          have HLB : Hid ((GB.bytes b).length = 1024) := Lib.hid (by rw [HSS.out, List.length_append, hs16, HL8.out])
          clear hI8
          go_wp2_with (first
            | (show wpList _ _ _ ((⟨some 58, _, _, _, _, _⟩ : Oper) :: _) _ _; refine wpList_load_blk (o := ⟨some 58, _, _, _, _, _⟩) HI8.raw (by rfl) _ _ (by rfl) (by rfl) _ Tryd.underlying161 (by rfl) size1024 (by simpa using HLB.out) ?_)
            | (show wpList _ _ _ ((⟨none, _, _, _, _, _⟩ : Oper) :: _) _ _; refine wpList_store_blk (o := ⟨none, _, _, _, _, _⟩) HI8.res (by rfl) _ _ _ (by rfl) (by rfl) ((GB.bytes b).map u8v).toArray (by rfl) size1024 (arr_size _ _) (by simpa using HLB.out) (u8_all _) ?_; intro w9 h9 hu9)
            | fail)
          refine bodyPost_ret (results_cell_row (by rfl) _ _ _ _ _ _ _ (by rfl) h9 Tryd.underlying161 (by rfl) (by rw [size1024]; simpa using HLB.out.symm)) rfl ⟨rfl, HI8.bel.upd hu9 (by omega)⟩
end Proofs.YtgkljncigbiffaaDoor
end Go

/- Comparisons, guarded operations and picks in a region that draws its order. Plain facts over any program. No condition. -/
namespace Go
open Go.RowKit
section
variable {P : Program} {ops : Array Oper} {C : World → Prop} {Q : Act → Prop} {rest : List Oper} {a : Act}
theorem wpQuiet_want' {dst : Option Tmp} {op : Op} {ty : TypeId} {pos : String} {af : Array Edge} {g : Option (Nat × Bool)}
    (hw : Region.wanted ⟨dst, op, ty, pos, af, g⟩ (yielded ops a.tmps) = true) (h : wpQuiet P ops C Q (⟨dst, op, ty, pos, af, none⟩ :: rest) a) : wpQuiet P ops C Q (⟨dst, op, ty, pos, af, g⟩ :: rest) a := by
  unfold wpQuiet at h ⊢
  rw [if_pos hw]
  rw [if_pos (by simp [Region.wanted])] at h
  exact h
end
end Go
