/- Four bytes of a number laid at a place of a list. Plain facts. -/
import Derived.Test.YtmhfehhpfkjloaaM63
import Derived.MapKept
import Derived.Deep.MidRow
import Derived.Test.YtmhfehhpfkjloaaRows
namespace Go.Proofs.Ytmhfehhpfkjloaa
open Go.RowKit
def put4 (L : List UInt8) (off n : Nat) : List UInt8 := L.take off ++ (le4 n ++ L.drop (off + 4))
def put4r (L : List UInt8) (off n j : Nat) : List UInt8 := L.take off ++ ((le4 n).take j ++ L.drop (off + j))
theorem put4r_zero (L : List UInt8) (off n : Nat) : put4r L off n 0 = L := by unfold put4r; simp
theorem put4r_four (L : List UInt8) (off n : Nat) : put4r L off n 4 = put4 L off n := rfl
theorem put4r_length (L : List UInt8) (off n j : Nat) (h : off + 4 ≤ L.length) (hj : j ≤ 4) : (put4r L off n j).length = L.length := by
  unfold put4r; rw [List.length_append, List.length_append, List.length_take, List.length_take, List.length_drop, le4_length]; omega
theorem put4_length (L : List UInt8) (off n : Nat) (h : off + 4 ≤ L.length) : (put4 L off n).length = L.length := put4r_length L off n 4 h (Nat.le_refl _)
theorem put4r_set (L : List UInt8) (off n j : Nat) (h : off + 4 ≤ L.length) (hj : j < 4) (b : UInt8) (hb : b = (le4 n).getD j 0) :
    ((put4r L off n j).map u8v).toArray.setIfInBounds (off + j) (.int .u8 (iu8 b)) = ((put4r L off n (j + 1)).map u8v).toArray := by
  apply Array.ext'
  simp only [List.setIfInBounds_toArray]
  have e : Value.int .u8 (iu8 b) = u8v b := rfl
  rw [e, ← List.map_set]
  congr 1
  subst hb
  unfold put4r
  have h1 : (L.take off).length = off := by rw [List.length_take]; omega
  rw [List.set_append_right _ _ (by omega), h1, Nat.add_sub_cancel_left]
  congr 1
  have h2 : ((le4 n).take j).length = j := by rw [List.length_take, le4_length]; omega
  rw [List.set_append_right _ _ (by omega), h2, Nat.sub_self]
  have hd : L.drop (off + j) = L[off + j]'(by omega) :: L.drop (off + (j + 1)) := by
    rw [List.drop_eq_getElem_cons (by omega)]; rfl
  rw [hd, List.set_cons_zero]
  have ht : (le4 n).take (j + 1) = (le4 n).take j ++ [(le4 n).getD j 0] := by
    rw [List.take_succ_eq_append_getElem (by rw [le4_length]; omega)]
    congr 2
    simp [List.getD, show j < (le4 n).length by rw [le4_length]; omega]
  rw [ht]; simp
theorem le4_v0 (n : Nat) : (n : Int) % 256 = iu8 ((le4 n).getD 0 0) := by show _ = iu8 (UInt8.ofNat (n % 256)); rw [iu8_ofNat_mod]
theorem le4_v1 (n : Nat) : (n : Int) / 256 % 256 = iu8 ((le4 n).getD 1 0) := by show _ = iu8 (UInt8.ofNat (n / 256 % 256)); rw [iu8_ofNat_mod]; omega
theorem le4_v2 (n : Nat) : (n : Int) / 65536 % 256 = iu8 ((le4 n).getD 2 0) := by show _ = iu8 (UInt8.ofNat (n / 65536 % 256)); rw [iu8_ofNat_mod]; omega
theorem le4_v3 (n : Nat) (h : n < 4294967296) : (n : Int) / 16777216 = iu8 ((le4 n).getD 3 0) := by show _ = iu8 (UInt8.ofNat (n / 16777216 % 256)); rw [iu8_ofNat_mod]; omega
theorem u8_lit (n : Nat) (h : n < 256) : (n : Int) = iu8 (UInt8.ofNat n) := (iu8_ofNat n h).symm
end Go.Proofs.Ytmhfehhpfkjloaa

/- Maps keyed by ints, in a block of the call's own: what is looked up, stored, cleared, made. Plain facts over any program. No condition. -/
namespace Go
open Go.RowKit Go.Instr Go.MapKept
/-- A map's block. -/
def MapB (w : World) (g : Nat) (es : Array MapEntry) (c : Nat) : Prop := w.heap[g]? = some (.map es c)
section
variable {w w' : World} {g : Nat} {es : Array MapEntry} {c : Nat}
theorem MapB.lt (h : MapB w g es c) : g < w.heap.size := (Array.getElem?_eq_some_iff.1 h).1
theorem MapB.below {B : Nat} (h : MapB w g es c) (hb : Below B w w') (hlt : g < B) : MapB w' g es c := (hb.block g hlt).trans h
theorem MapB.upd {k : Nat} (h : MapB w g es c) (u : Upd k w w') (hne : g ≠ k) : MapB w' g es c := (u.block g hne).trans h
theorem MapB.drew (h : MapB w g es c) : MapB w.drew g es c := h
theorem MapB.alloc (h : MapB w g es c) (o : Obj) : MapB (w.alloc o) g es c := by
  have hl := h.lt
  unfold MapB at *
  rw [← h]
  exact ((Below.refl w.heap.size w).alloc (Nat.le_refl _) o).block g hl
theorem MapB.new (w : World) (es : Array MapEntry) (c : Nat) : MapB (w.alloc (.map es c)) w.heap.size es c := heap_alloc_last w _
instance : KeepsTo w w' (MapB w g es c) (MapB w' g es c) := ⟨fun hb h => h.below hb h.lt⟩
end
/-- The place and the element of a key. -/
def mfind : List MapEntry → Int → Nat → Option (Nat × Value)
  | [], _, _ => none
  | e :: es, a, i => match e.key with
    | .int .i64 b => if a = b then some (i, e.val) else mfind es a (i + 1)
    | _ => mfind es a (i + 1)
def IntKeys (es : List MapEntry) : Prop := ∀ e ∈ es, ∃ a, e.key = .int .i64 a
def mget (es : Array MapEntry) (a : Int) : Option Value := (mfind es.toList a 0).map (·.2)
theorem findNow_int (a : Int) : ∀ (es : List MapEntry) (i : Nat), IntKeys es → findNow (.int .i64) (.int .i64 a) es i = some (mfind es a i)
  | [], _, _ => rfl
  | e :: es, i, h => by
    obtain ⟨b, hb⟩ := h e (.head _)
    have ih := findNow_int a es (i + 1) (fun x hx => h x (.tail _ hx))
    unfold findNow mfind
    rw [hb]
    by_cases hab : a = b
    · subst hab; simp [sameNow]
    · simp only [sameNow, if_true, beq_eq_false_iff_ne.2 hab, if_neg hab, ih]
/-- What a store leaves. -/
def mput (es : Array MapEntry) (c : Nat) (a : Int) (v : Value) : Array MapEntry × Nat :=
  match mfind es.toList a 0 with
  | some (i, _) => (es.modify i fun e => { e with key := .int .i64 a, val := v }, c)
  | none => (es.push { key := .int .i64 a, val := v, born := c }, c + 1)
theorem mfind_lt (a : Int) : ∀ (es : List MapEntry) (i j : Nat) (v : Value), mfind es a i = some (j, v) → i ≤ j ∧ ∃ e, es[j - i]? = some e ∧ e.key = .int .i64 a ∧ e.val = v
  | [], _, _, _, h => by cases h
  | e :: es, i, j, v, h => by
    unfold mfind at h
    split at h
    · rename_i b hb
      by_cases hab : a = b
      · rw [if_pos hab] at h
        injection h with h; injection h with h1 h2
        subst h1 h2
        exact ⟨Nat.le_refl _, e, by simp, by rw [hb, hab], rfl⟩
      · rw [if_neg hab] at h
        obtain ⟨h1, e', h2, h3⟩ := mfind_lt a es (i + 1) j v h
        exact ⟨by omega, e', by rw [show j - i = (j - (i + 1)) + 1 by omega]; simpa using h2, h3⟩
    · obtain ⟨h1, e', h2, h3⟩ := mfind_lt a es (i + 1) j v h
      exact ⟨by omega, e', by rw [show j - i = (j - (i + 1)) + 1 by omega]; simpa using h2, h3⟩
theorem IntKeys.put {es : Array MapEntry} {c : Nat} {a : Int} {v : Value} (h : IntKeys es.toList) : IntKeys (mput es c a v).1.toList := by
  unfold mput
  split
  · intro e he
    rw [Array.toList_modify] at he
    obtain ⟨k, hk, rfl⟩ := List.getElem_of_mem he
    rw [List.getElem_modify]
    split
    · exact ⟨a, rfl⟩
    · exact h _ (List.getElem_mem _)
  · intro e he
    rw [Array.toList_push, List.mem_append, List.mem_singleton] at he
    rcases he with he | rfl
    · exact h e he
    · exact ⟨a, rfl⟩
section
variable {P : Program} {w : World} {ops : Array Oper} {rest : List Oper} {o : Oper} {a : Act} {Q : Exit → Act → World → Prop}
theorem run_lookup_int (t kt et : TypeId) (ht : P.underlying t = some (.map kt et)) (hk : P.underlying kt = some (.int .i64)) (g : Nat) (es : Array MapEntry) (c : Nat) (hg : MapB w g es c) (hes : IntKeys es.toList) (x : Int) (z : Value)
    (hz : (zeroValue et).run P w = .ok z w) : (lookup t (.map (some g)) (.int .i64 x) true).run P w = .ok (.tuple #[(mget es x).getD z, .bool (mget es x).isSome]) w := by
  have h1 := run_checkKey (P := P) (w := w) (k := .int .i64 x) hk rfl es.isEmpty 9999
  have h2 := run_findKey (w := w) hk (findNow_int x es.toList 0 hes)
  have h0 : (getObj g).run P w = .ok (.map es c) w := MapKept.run_getObj_map hg
  unfold lookup mget
  cases hm : mfind es.toList x 0 with
  | none => rw [hm] at h2; simp [run_underlying ht, h0, h1, h2, hz, Result.andThen]
  | some p => rw [hm] at h2; simp [run_underlying ht, h0, h1, h2, Result.andThen]
theorem wpList_lookup_int (hgd : o.guard = none) (t kt et : TypeId) (m k : Operand) (ho : o.op = .lookup t m k true) (ht : P.underlying t = some (.map kt et)) (hk : P.underlying kt = some (.int .i64)) (g : Nat) (es : Array MapEntry) (c : Nat)
    (hg : MapB w g es c) (hes : IntKeys es.toList) (x : Int) (z : Value) (hz : (zeroValue et).run P w = .ok z w) (hm : a.eval m = .map (some g)) (hx : a.eval k = .int .i64 x)
    (h : wpList P ops Q rest (a.put o.dst (.tuple #[(mget es x).getD z, .bool (mget es x).isSome])) w) : wpList P ops Q (o :: rest) a w :=
  wpList_run _ hgd (by unfold execOp; simp only [ho, hm, hx, run_lookup_int t kt et ht hk g es c hg hes x z hz, Sem.run_bind, Result.andThen_ok, Sem.run_pure]) h
theorem sameBits_int (x : Int) : sameBits 10000 (.int .i64 x) (.int .i64 x) = true := by simp [sameBits]
theorem run_mapUpdate_int (t kt et : TypeId) (ht : P.underlying t = some (.map kt et)) (hk : P.underlying kt = some (.int .i64)) (g : Nat) (es : Array MapEntry) (c : Nat) (hg : MapB w g es c) (hes : IntKeys es.toList) (x : Int) (v : Value) :
    ∃ w', (mapUpdate t (.map (some g)) (.int .i64 x) v).run P w = .ok () w' ∧ MapB w' g (mput es c x v).1 (mput es c x v).2 ∧ Upd g w w' := by
  have h1 := run_checkKey (P := P) (w := w) (k := .int .i64 x) hk rfl false 9999
  have h2 := run_findKey (w := w) hk (findNow_int x es.toList 0 hes)
  have hu : ∀ ob, MapB w g es c → Upd g w { w with heap := w.heap.setIfInBounds g ob } := fun ob _ => ⟨rfl, rfl, rfl, by simp, fun k hk => by simp [Ne.symm hk]⟩
  have h0 : (getObj g).run P w = .ok (.map es c) w := MapKept.run_getObj_map hg
  have hs : ∀ ob, (setObj g ob).run P w = .ok () { w with heap := w.heap.setIfInBounds g ob } := fun ob => MapKept.run_setObj_map ob hg
  unfold mapUpdate mput
  cases hm : mfind es.toList x 0 with
  | none =>
    rw [hm] at h2
    simp only [Sem.run_bind, run_underlying ht, Result.andThen_ok, h0, h1, h2, hs]
    exact ⟨_, rfl, (heap_set hg).1, hu _ hg⟩
  | some p =>
    obtain ⟨i, v0⟩ := p
    obtain ⟨_, e, h3, h4, _⟩ := mfind_lt x es.toList 0 i v0 hm
    have h5 : ((es[i]?).map (·.key)).getD (.int .i64 x) = .int .i64 x := by
      rw [Nat.sub_zero, Array.getElem?_toList] at h3
      rw [h3]; exact h4
    rw [hm] at h2
    simp only [Sem.run_bind, run_underlying ht, Result.andThen_ok, h0, h1, h2, h5, keyThatStays, sameBits_int, if_true, Sem.run_pure, hs]
    exact ⟨_, rfl, (heap_set hg).1, hu _ hg⟩
theorem wpList_mapUpdate_int (hgd : o.guard = none) (t kt et : TypeId) (m k y : Operand) (ho : o.op = .mapUpdate t m k y) (ht : P.underlying t = some (.map kt et)) (hk : P.underlying kt = some (.int .i64)) (g : Nat) (es : Array MapEntry) (c : Nat)
    (hg : MapB w g es c) (hes : IntKeys es.toList) (x : Int) (v : Value) (hm : a.eval m = .map (some g)) (hx : a.eval k = .int .i64 x) (hy : a.eval y = v)
    (h : ∀ w', MapB w' g (mput es c x v).1 (mput es c x v).2 → Upd g w w' → wpList P ops Q rest (a.put o.dst undef) w') : wpList P ops Q (o :: rest) a w := by
  obtain ⟨w', h1, h2, h3⟩ := run_mapUpdate_int t kt et ht hk g es c hg hes x v
  refine wpList_plain hgd fun _ hK => ?_
  unfold Oper.wp execOp
  simp only [ho, hm, hx, hy, h1, Sem.run_bind, Sem.run_pure, Result.andThen_ok]
  exact hK _ _ (h w' h2 h3)
theorem wpList_clear_map (hgd : o.guard = none) (t : TypeId) (m : Operand) (d : TypeDesc) (ho : o.op = .call { callee := .builtin .clear, args := #[m], argTypes := #[t] }) (ht : P.underlying t = some d) (g : Nat) (es : Array MapEntry) (c : Nat)
    (hg : MapB w g es c) (hm : a.eval m = .map (some g)) (h : ∀ w', MapB w' g #[] c → Upd g w w' → wpList P ops Q rest (a.put o.dst (.tuple #[])) w') : wpList P ops Q (o :: rest) a w := by
  refine wpList_plain hgd fun _ hK => ?_
  have hr : (Builtin.clear_ #[t] o.type #[.map (some g)]).run P w = .ok (.tuple #[]) { w with heap := w.heap.setIfInBounds g (.map #[] c) } := by
    unfold Builtin.clear_
    have h0 : (getObj g).run P w = .ok (.map es c) w := MapKept.run_getObj_map hg
    have hs : ∀ ob, (setObj g ob).run P w = .ok () { w with heap := w.heap.setIfInBounds g ob } := fun ob => MapKept.run_setObj_map ob hg
    simp [run_underlying ht, h0, hs, Result.andThen]
  unfold Oper.wp
  simp [execOp, ho, resolve, invoke, builtin, hm, hr, Result.andThen]
  exact hK _ _ (h _ (heap_set hg).1 ⟨rfl, rfl, rfl, by simp, fun k hk => by simp [Ne.symm hk]⟩)
end
end Go

/- A store of a whole struct or array into the middle of an own block. Plain facts over any program. Condition: the block is long enough. -/
namespace Go
open Go.RowKit
def setAll (cs : Array Value) : Nat → List Value → Array Value
  | _, [] => cs
  | o, v :: r => setAll (cs.setIfInBounds o v) (o + 1) r
theorem Blk.setCells {g : Nat} {t : TypeId} : ∀ (vs : List Value) (o : Nat) (w : World) (cs : Array Value), Blk w g t cs → Blk (w.setCells g o vs) g t (setAll cs o vs)
  | [], _, _, _, h => h
  | v :: r, o, _, _, h => Blk.setCells r (o + 1) _ _ (h.set_ o v)
theorem Upd.setCells {g : Nat} {w0 : World} : ∀ (vs : List Value) (o : Nat) (w : World), Upd g w0 w → Upd g w0 (w.setCells g o vs)
  | [], _, _, h => h
  | v :: r, o, _, h => Upd.setCells r (o + 1) _ (h.set o v)
theorem wpList_store_in {P : Program} {w : World} {Q : Exit → Act → World → Prop} {ops : Array Oper} {rest : List Oper} {o : Oper} {a : Act} {g : Nat} {t : TypeId} {cs : Array Value} (hb : Blk w g t cs) (hgd : o.guard = none) (ty : TypeId) (x y : Operand) (ho : o.op = .store ty x y)
    (k : Nat) (hx : a.eval x = .pointer (some ⟨g, k, none⟩)) (vs : Array Value) (hy : a.eval y = .agg vs) {n : Nat} (hi : (P.info? ty).map (·.size) = some n) (hs : vs.size = n) (hk : k + n ≤ cs.size) (h1 : vs.all (·.oneCell') = true)
    (h : ∀ w', Blk w' g t (setAll cs k vs.toList) → Upd g w w' → wpList P ops Q rest (a.put o.dst undef) w') : wpList P ops Q (o :: rest) a w :=
  wpList_store_mid hgd ty x y ho g k vs hx hy (fun j hj => ⟨by rw [hb.cell, Array.getElem?_eq_getElem (by omega)]; rfl, hb.frozen _⟩) (by rw [hs]; exact hi) h1
    (h _ (Blk.setCells vs.toList k w cs hb) (Upd.setCells vs.toList k w (Upd.refl g w)))
end Go

/- A disk's bytes as one list, sector behind sector; bytes written over a part of them. Plain facts. No condition. -/
namespace Go
/-- The bytes b, written from the place p on. -/
def wr (L : List UInt8) (p : Nat) (b : List UInt8) : List UInt8 := L.take p ++ (b ++ L.drop (p + b.length))
theorem wr_length {L b : List UInt8} {p : Nat} (h : p + b.length ≤ L.length) : (wr L p b).length = L.length := by
  unfold wr; rw [List.length_append, List.length_append, List.length_take, List.length_drop]; omega
theorem wr_nil (L : List UInt8) (p : Nat) : wr L p [] = L := by unfold wr; rw [List.nil_append, List.length_nil, Nat.add_zero, List.take_append_drop]
theorem wr_take {L b : List UInt8} {p : Nat} (h : p ≤ L.length) : (wr L p b).take p = L.take p := by
  have hl : (L.take p).length = p := by rw [List.length_take]; omega
  unfold wr
  rw [List.take_append_of_le_length (by omega), List.take_take, Nat.min_self]
theorem wr_drop {L b : List UInt8} {p : Nat} (h : p ≤ L.length) (k : Nat) : (wr L p b).drop (p + b.length + k) = L.drop (p + b.length + k) := by
  have hl : (L.take p ++ b).length = p + b.length := by rw [List.length_append, List.length_take]; omega
  unfold wr
  rw [← List.append_assoc, ← List.drop_drop, List.drop_left' hl, List.drop_drop]
theorem wr_mid {L b : List UInt8} {p : Nat} (h : p ≤ L.length) : ((wr L p b).drop p).take b.length = b := by
  have hl : (L.take p).length = p := by rw [List.length_take]; omega
  unfold wr
  rw [show (L.take p ++ (b ++ L.drop (p + b.length))).drop p = b ++ L.drop (p + b.length) by
    have e := List.drop_left (l₁ := L.take p) (l₂ := b ++ L.drop (p + b.length)); rw [hl] at e; exact e, List.take_left]
theorem wr_wr {L a b : List UInt8} {p : Nat} (h : p + a.length + b.length ≤ L.length) : wr (wr L p a) (p + a.length) b = wr L p (a ++ b) := by
  have hp : p ≤ L.length := by omega
  have hl : (L.take p).length = p := by rw [List.length_take]; omega
  have h1 : (wr L p a).take (p + a.length) = L.take p ++ a := by
    unfold wr
    rw [← List.append_assoc, List.take_append_of_le_length (by rw [List.length_append]; omega), List.take_of_length_le (by rw [List.length_append]; omega)]
  have h2 : (wr L p a).drop (p + a.length + b.length) = L.drop (p + a.length + b.length) := wr_drop hp b.length
  show (wr L p a).take (p + a.length) ++ (b ++ (wr L p a).drop (p + a.length + b.length)) = L.take p ++ ((a ++ b) ++ L.drop (p + (a ++ b).length))
  rw [h1, h2, List.length_append, List.append_assoc, List.append_assoc, Nat.add_assoc]
theorem wr_set {L : List UInt8} {p : Nat} {x : UInt8} {r : List UInt8} (h : p < L.length) : wr (L.set p x) (p + 1) r = wr L p (x :: r) := by
  have hl : (L.take p ++ [x]).length = p + 1 := by rw [List.length_append, List.length_take]; simp; omega
  have e : L.set p x = (L.take p ++ [x]) ++ L.drop (p + 1) := by rw [List.set_eq_take_append_cons_drop, if_pos h]; simp
  unfold wr
  rw [e, List.take_left' hl, ← List.drop_drop, List.drop_left' hl, List.drop_drop, List.length_cons, List.append_assoc, show p + 1 + r.length = p + (r.length + 1) by omega]
  rfl
theorem setAll_wr : ∀ (b L : List UInt8) (p : Nat), p + b.length ≤ L.length → setAll (L.map u8v).toArray p (b.map u8v) = ((wr L p b).map u8v).toArray
  | [], L, p, _ => by rw [wr_nil]; rfl
  | x :: r, L, p, h => by
    rw [List.length_cons] at h
    rw [List.map_cons]
    show setAll ((L.map u8v).toArray.setIfInBounds p (u8v x)) (p + 1) (r.map u8v) = _
    have e : (L.map u8v).toArray.setIfInBounds p (u8v x) = ((L.set p x).map u8v).toArray := by simp [List.map_set]
    rw [e, setAll_wr r (L.set p x) (p + 1) (by rw [List.length_set]; omega), wr_set (by omega)]
end Go

/- make of a list of sectors of noughts, and of a map. Plain facts over any program. Conditions: as many as the memory holds. -/
namespace Go
open Go.RowKit
theorem madeCells_noughts (Z : Array Value) (hz : ∀ i, i < Z.size → Z[i]? = some (.int .u8 0)) (h0 : 0 < Z.size) (m : Nat) : madeCells Z m = ((List.replicate m (0 : UInt8)).map u8v).toArray := by
  unfold madeCells
  apply Array.ext_getElem?
  intro j
  by_cases hj : j < m
  · have h1 := hz (j % Z.size) (Nat.mod_lt _ h0)
    have h2 : Z[j % Z.size]! = .int .u8 0 := by rw [getElem!_def, h1]
    simp only [Array.getElem?_map, Array.getElem?_range, hj, if_true, Option.map_some, h2, List.getElem?_toArray, List.getElem?_map, List.getElem?_replicate]
    rfl
  · simp [hj]
theorem wpList_make_rows {P : Program} (w : World) {ops : Array Oper} {rest : List Oper} {o : Oper} {a : Act} {Q : Exit → Act → World → Prop}
    (hg : o.guard = none) (l c : Operand) (t : TypeId) (hop : o.op = Op.makeSlice t l c) (e : TypeId) (h1 : P.underlying t = some (.slice e)) (Z : Array Value) (s : Nat) (h2 : (P.info? e).map (fun i => (i.zero, i.size, i.bytes)) = some (some (.agg Z), s, s))
    (hZs : Z.size = s) (h0 : 0 < s) (hz : ∀ i, i < Z.size → Z[i]? = some (.int .u8 0)) (kl kc : IntKind) (n : Nat) (hl : a.eval l = .int kl (n : Int)) (hc : a.eval c = .int kc (n : Int)) (hm : s * n ≤ 140737488400000)
    (hK : ∀ w', Blk w' w.heap.size e ((List.replicate (n * s) (0 : UInt8)).map u8v).toArray → Below w.heap.size w w' → w'.heap.size = w.heap.size + 1 → wpList P ops Q rest (a.put o.dst (.slice (some ⟨w.heap.size, 0, none⟩) n n)) w') :
    wpList P ops Q (o :: rest) a w := by
  obtain ⟨i, hi, hzz⟩ := Option.map_eq_some_iff.1 h2
  simp only [Prod.mk.injEq] at hzz
  obtain ⟨hz1, hs, hb⟩ := hzz
  have hns : n ≤ s * n := Nat.le_mul_of_pos_left n h0
  have hr := run_make (P := P) w t e i _ h1 hi hz1 kl kc n n (by omega) (by omega) (by rw [hb, ← Int.natCast_mul]; omega) (by omega)
  rw [Int.toNat_natCast, hs, show (Value.agg Z).cells = Z from rfl, madeCells_noughts Z hz (by omega)] at hr
  refine wpList_plain hg fun K hK' => ?_
  unfold Oper.wp
  simp only [execOp, hop, hl, hc, hr, Sem.run_bind, Result.andThen_ok, Sem.run_pure]
  exact hK' _ _ (hK _ (Blk.new w e _) ((Below.refl _ _).alloc (Nat.le_refl _) _) (by simp))
theorem wpList_make_map {P : Program} (w : World) {ops : Array Oper} {rest : List Oper} {o : Oper} {a : Act} {Q : Exit → Act → World → Prop} (hg : o.guard = none) (t : TypeId) (hop : o.op = Op.makeMap t none)
    (h : ∀ w', MapB w' w.heap.size #[] 0 → Below w.heap.size w w' → w'.heap.size = w.heap.size + 1 → wpList P ops Q rest (a.put o.dst (.map (some w.heap.size))) w') : wpList P ops Q (o :: rest) a w := by
  have hr : (Instr.makeMap t none).run P w = .ok (.map (some w.heap.size)) (w.alloc (.map #[] 0)) := by
    simp [Instr.makeMap, newObj, Sem.run, Result.andThen]
  refine wpList_plain hg fun K hK => ?_
  unfold Oper.wp
  simp only [execOp, hop, Option.map_none, hr, Sem.run_bind, Result.andThen_ok, Sem.run_pure]
  exact hK _ _ (h _ (MapB.new w _ _) ((Below.refl _ _).alloc (Nat.le_refl _) _) (by simp))
end Go

/- What a call hands back whose first result lies in a block; reads over an Upd step. Plain facts over any program. No condition. -/
namespace Go
open Go.RowKit
theorem Bytes.range {w : World} {b off : Nat} {l : List UInt8} (h : Bytes w (some ⟨b, off, none⟩) l) : w.rangeAt b off (l.map u8v) := fun j v hv => by
  have hne : l.map u8v ≠ [] := by intro e; rw [e] at hv; simp at hv
  obtain ⟨b', off', e, hc⟩ := h hne
  simp only [Option.some.injEq, Addr.mk.injEq, and_true] at e
  rw [e.1, e.2]; exact hc j v hv
theorem Upd.cell {g : Nat} {w w' : World} (u : Upd g w w') {p : Addr} (hp : p.block ≠ g) : w'.cell? p = w.cell? p := by
  unfold World.cell?
  rw [u.block p.block hp]
theorem Reads.upd {g : Nat} {w w' : World} {A : Option Addr} {xs : List Value} (h : Reads w A xs) (u : Upd g w w') (hA : ∀ ad, A = some ad → ad.block ≠ g) : Reads w' A xs := fun hn => by
  obtain ⟨b, off, rfl, hc⟩ := h hn
  exact ⟨b, off, rfl, fun j v hv => (u.cell (p := ⟨b, off + j, none⟩) (hA ⟨b, off, none⟩ rfl)).trans (hc j v hv)⟩
theorem results_row_tmp {P : Program} {fn : Func} {p q : Tmp} {ty : TypeId} (h : fn.results = #[.cell p ty, .tmp q]) (tmps : Array Value) (w : World) (g : Nat) (t : TypeId) (cs : Array Value) (d : TypeDesc)
    (hp : tmps.getD p undef = .pointer (some ⟨g, 0, none⟩)) (hg : Blk w g t cs)
    (hu : P.underlying ty = some d) (hd : (match d with | .struct _ | .array _ _ => true | _ => false) = true) (hi : (P.info? ty).map (·.size) = some cs.size) :
    (results fn tmps).run P w = .ok (.tuple #[.agg cs, tmps.getD q undef]) w := by
  have hp' : tmps[p]?.getD undef = .pointer (some ⟨g, 0, none⟩) := by simpa using hp
  simp [results, h, hp', asAddr, run_loadVar_row w g t ty cs (0, 0) d hg hu hd hi]
end Go

/- A disk as the program keeps it; is it none, is it out, is it ready, how many sectors has it, is it up. Conditions: the disk is one that was made, or none. -/
namespace Go.Proofs.Ytmhfehhpfkjloaa
open Go.RowKit
/-- A disk's own block: its sectors' bytes in gl, its loose sectors in gm, is it out, its fuse, its changes. -/
def dkc (gl gm N : Nat) (out : Bool) (fz : Option Nat) (ops : Int) : Array Value := #[.slice (some ⟨gl, 0, none⟩) N N, .map (some gm), .bool out, .pointer (fz.map fun g => ⟨g, 0, none⟩), .int .i64 ops]
def DiskB (w : World) (gd gl gm N : Nat) (L : List UInt8) (es : Array MapEntry) (c : Nat) (out : Bool) (fz : Option Nat) (ops : Int) : Prop :=
  Blk w gd 32 (dkc gl gm N out fz ops) ∧ Blk w gl 113 (L.map u8v).toArray ∧ MapB w gm es c
def FuseB (w : World) (gf : Nat) (left : Int) (gone : Bool) : Prop := Blk w gf 121 #[.int .i64 left, .bool gone]
def noDisk : Array Value := #[.slice none 0 0, .map none, .bool false, .pointer none, .int .i64 0]
theorem DiskB.below {w w' : World} {gd gl gm N : Nat} {L : List UInt8} {es : Array MapEntry} {c : Nat} {out : Bool} {fz : Option Nat} {ops : Int} (h : DiskB w gd gl gm N L es c out fz ops) (hb : Below w.heap.size w w') : DiskB w' gd gl gm N L es c out fz ops :=
  ⟨h.1.below hb h.1.lt, h.2.1.below hb h.2.1.lt, h.2.2.below hb h.2.2.lt⟩
instance {w w' : World} {gd gl gm N : Nat} {L : List UInt8} {es : Array MapEntry} {c : Nat} {out : Bool} {fz : Option Nat} {ops : Int} : KeepsTo w w' (DiskB w gd gl gm N L es c out fz ops) (DiskB w' gd gl gm N L es c out fz ops) := ⟨fun hb h => h.below hb⟩
theorem FuseB.below {w w' : World} {gf : Nat} {left : Int} {gone : Bool} (h : FuseB w gf left gone) (hb : Below w.heap.size w w') : FuseB w' gf left gone := Blk.below (h : Blk w gf 121 _) hb h.lt
instance {w w' : World} {gf : Nat} {left : Int} {gone : Bool} : KeepsTo w w' (FuseB w gf left gone) (FuseB w' gf left gone) := ⟨fun hb h => h.below hb⟩
theorem eqlNil (w : World) : (binOp .eql 28 (.slice none 0 0) (.slice none 0 0)).run Try.prog w = .ok (.bool true) w := by kernel_rfl
theorem eqlSome (g N : Nat) (w : World) : (binOp .eql 28 (.slice (some ⟨g, 0, none⟩) N N) (.slice none 0 0)).run Try.prog w = .ok (.bool false) w := by kernel_rfl
theorem none_nil (w : World) : Calls Try.prog 68 #[.pointer none] w fun e w' => e = .returned (.bool true) ∧ w' = w := by
  go_enter Try.func68, Try.ntmps68
  go_wp2
  go_ret
  exact ⟨rfl, rfl⟩
set_option maxRecDepth 100000 in
theorem none_zero (g : Nat) (w : World) (h : Blk w g 32 noDisk) : Calls Try.prog 68 #[.pointer (some ⟨g, 0, none⟩)] w fun e w' => e = .returned (.bool true) ∧ w' = w := by
  have d0 := h.at_ 0 (v := .slice none 0 0) rfl
  have he := eqlNil
  clear h
  go_enter Try.func68, Try.ntmps68
  go_wp2
  go_ret
  exact ⟨rfl, rfl⟩
section
variable {gd gl gm N c : Nat} {L : List UInt8} {es : Array MapEntry} {out : Bool} {fz : Option Nat} {ops : Int}
set_option maxRecDepth 100000 in
theorem none_made (w : World) (h : DiskB w gd gl gm N L es c out fz ops) : Calls Try.prog 68 #[.pointer (some ⟨gd, 0, none⟩)] w fun e w' => e = .returned (.bool false) ∧ w' = w := by
  have d0 := h.1.at_ 0 (v := .slice (some ⟨gl, 0, none⟩) N N) rfl
  have he := eqlSome gl N
  clear h
  go_enter Try.func68, Try.ntmps68
  go_wp2
  go_ret
  exact ⟨rfl, rfl⟩
/-- Is a disk out, its fuse being so? -/
def isOutV (out : Bool) (fz : Option (Nat × Int × Bool)) : Bool := out || (match fz with | none => false | some f => f.2.2)
set_option maxRecDepth 100000 in
theorem isOut_none (w : World) (h : DiskB w gd gl gm N L es c out none ops) : Calls Try.prog 75 #[.pointer (some ⟨gd, 0, none⟩)] w fun e w' => e = .returned (.bool out) ∧ w' = w := by
  have d2 := h.1.at_ 2 (v := .bool out) rfl
  have d3 := h.1.at_ 3 (v := .pointer none) rfl
  clear h
  cases out
  all_goals
    go_enter Try.func75, Try.ntmps75
    go_wp2
    go_ret
    exact ⟨rfl, rfl⟩
set_option maxRecDepth 100000 in
theorem isOut_some (gf : Nat) (left : Int) (gone : Bool) (w : World) (h : DiskB w gd gl gm N L es c out (some gf) ops) (hf : FuseB w gf left gone) : Calls Try.prog 75 #[.pointer (some ⟨gd, 0, none⟩)] w fun e w' => e = .returned (.bool (out || gone)) ∧ w' = w := by
  have d2 := h.1.at_ 2 (v := .bool out) rfl
  have d3 := h.1.at_ 3 (v := .pointer (some ⟨gf, 0, none⟩)) rfl
  have d1 := Blk.at_ (hf : Blk w gf _ _) 1 (v := .bool gone) rfl
  clear h hf
  cases out
  all_goals
    go_enter Try.func75, Try.ntmps75
    go_wp2
    go_ret
    exact ⟨rfl, rfl⟩
end
end Go.Proofs.Ytmhfehhpfkjloaa

/- A disk is made; is it ready, how many sectors has it, is it up. Conditions: the disk is one that was made, or none. -/
namespace Go.Proofs.Ytmhfehhpfkjloaa
open Go.RowKit
def zeroSec : Array Value := arr 256 fun _ => .int .u8 0
theorem infoSec : (Try.prog.info? 113).map (fun i => (i.zero, i.size, i.bytes)) = some (some (.agg zeroSec), 256, 256) := by kernel_rfl
theorem zeroSec_size : zeroSec.size = 256 := arr_size _ _
theorem zeroSec_at (i : Nat) (h : i < zeroSec.size) : zeroSec[i]? = some (.int .u8 0) := arr_at _ (by rw [zeroSec_size] at h; exact h)
theorem new_no (n : Int) (h : n < 1 ∨ 65536 < n) (w : World) : Calls Try.prog 29 #[.int .i64 n] w fun e w' => e = .returned (.tuple #[.pointer none, .int .i64 5]) ∧ w' = w := by
  by_cases h1 : n < 1
  · go_enter Try.func29, Try.ntmps29
    go_wp2
    go_ret2
    exact ⟨rfl, rfl⟩
  · have h2 : 65536 < n := by omega
    clear h
    go_enter Try.func29, Try.ntmps29
    go_wp2
    go_ret2
    exact ⟨rfl, rfl⟩
set_option maxHeartbeats 1000000 in
theorem new_any (N : Nat) (h : 1 ≤ N ∧ N ≤ 65536) (w : World) : Calls Try.prog 29 #[.int .i64 (N : Int)] w fun e w' => ∃ gd gl gm, e = .returned (.tuple #[.pointer (some ⟨gd, 0, none⟩), .int .i64 0]) ∧
      DiskB w' gd gl gm N (List.replicate (N * 256) 0) #[] 0 false none 0 ∧ (w.heap.size ≤ gd ∧ w.heap.size ≤ gl ∧ w.heap.size ≤ gm ∧ gd ≠ gl ∧ gd ≠ gm ∧ gl ≠ gm) ∧ Below w.heap.size w w' := by
  have h1 : decide ((N : Int) < 1) = false := by rw [decide_eq_false_iff_not]; omega
  have h2 : decide ((N : Int) > 65536) = false := by rw [decide_eq_false_iff_not]; omega
  have HN := Lib.hid h
  clear h
  go_enter Try.func29, Try.ntmps29
  go_wp2_with (first
    | ((with_reducible show wpList _ _ _ ((⟨some 11, _, _, _, _, _⟩ : Oper) :: _) _ _); refine wpList_make_rows (o := ⟨some 11, _, _, _, _, _⟩) _ (by rfl) _ _ _ (by rfl) _ Try.underlying28 zeroSec 256 infoSec zeroSec_size (by omega) zeroSec_at .i64 .i64 N (by rfl) (by rfl) (by have := HN.out; omega) ?_; intro w1 hl1 hb1 hs1; clear hs1)
    | ((with_reducible show wpList _ _ _ ((⟨some 12, _, _, _, _, _⟩ : Oper) :: _) _ _); refine wpList_make_map (o := ⟨some 12, _, _, _, _, _⟩) _ (by rfl) _ (by rfl) ?_; intro w2 hm2 hb2 hs2; clear hs2)
    | fail)
  have hl2 := hl1.below hb2 hl1.lt
  have hgd := Blk.new w2 32 (dkc w.heap.size w1.heap.size N false none 0)
  have hbx := (Below.refl w2.heap.size w2).alloc (Nat.le_refl _) (.cells (dkc w.heap.size w1.heap.size N false none 0) 32)
  have hl3 := hl2.below hbx hl2.lt
  have hm3 := hm2.below hbx hm2.lt
  have hB := (hb1.trans (hb2.mono hb1.size)).trans (hbx.mono (by have := hb1.size; have := hb2.size; omega))
  go_ret2
  exact ⟨w2.heap.size, w.heap.size, w1.heap.size, rfl, ⟨hgd, hl3, hm3⟩, by have := hl1.lt; have := hm2.lt; omega, hB⟩
section
variable {gd gl gm N c : Nat} {L : List UInt8} {es : Array MapEntry} {out : Bool} {fz : Option Nat} {ops : Int}
theorem ready_nil (w : World) : Calls Try.prog 69 #[.pointer none] w fun e w' => e = .returned (.int .i64 1) ∧ w' = w := by
  go_enter Try.func69, Try.ntmps69
  go_wp2_with fail
  refine (none_nil w).mono ?_
  rintro e w1 ⟨rfl, rfl⟩
  go_wp2
  go_ret
  exact ⟨rfl, rfl⟩
theorem ready_zero (g : Nat) (w : World) (h : Blk w g 32 noDisk) : Calls Try.prog 69 #[.pointer (some ⟨g, 0, none⟩)] w fun e w' => e = .returned (.int .i64 1) ∧ w' = w := by
  go_enter Try.func69, Try.ntmps69
  go_wp2_with fail
  refine (none_zero g w h).mono ?_
  rintro e w1 ⟨rfl, rfl⟩
  clear h
  go_wp2
  go_ret
  exact ⟨rfl, rfl⟩
theorem ready_made (w : World) (q : Bool) (hq : ∀ w', w' = w → Calls Try.prog 75 #[.pointer (some ⟨gd, 0, none⟩)] w' fun e w'' => e = .returned (.bool q) ∧ w'' = w') (h : DiskB w gd gl gm N L es c out fz ops) :
    Calls Try.prog 69 #[.pointer (some ⟨gd, 0, none⟩)] w fun e w' => e = .returned (.int .i64 (if q = true then 11 else 0)) ∧ w' = w := by
  go_enter Try.func69, Try.ntmps69
  go_wp2_with fail
  refine (none_made w h).mono ?_
  rintro e w1 ⟨rfl, rfl⟩
  clear h
  go_wp2_with fail
  refine (hq _ rfl).mono ?_
  rintro e w2 ⟨rfl, rfl⟩
  clear hq
  cases q
  all_goals
    go_wp2
    go_ret
    exact ⟨rfl, rfl⟩
theorem ready_up (w : World) (h : DiskB w gd gl gm N L es c false none ops) : Calls Try.prog 69 #[.pointer (some ⟨gd, 0, none⟩)] w fun e w' => e = .returned (.int .i64 0) ∧ w' = w :=
  ready_made w false (fun w' hw => by rw [hw]; exact isOut_none w h) h
set_option maxRecDepth 100000 in
theorem sectors_made (w : World) (h : DiskB w gd gl gm N L es c out fz ops) : Calls Try.prog 52 #[.pointer (some ⟨gd, 0, none⟩)] w fun e w' => e = .returned (.int .i64 (N : Int)) ∧ w' = w := by
  have d0 := h.1.at_ 0 (v := .slice (some ⟨gl, 0, none⟩) N N) rfl
  go_enter Try.func52, Try.ntmps52
  go_wp2_with fail
  refine (none_made w h).mono ?_
  rintro e w1 ⟨rfl, rfl⟩
  clear h
  go_wp2
  go_ret
  exact ⟨rfl, rfl⟩
theorem sectors_nil (w : World) : Calls Try.prog 52 #[.pointer none] w fun e w' => e = .returned (.int .i64 0) ∧ w' = w := by
  go_enter Try.func52, Try.ntmps52
  go_wp2_with fail
  refine (none_nil w).mono ?_
  rintro e w1 ⟨rfl, rfl⟩
  go_wp2
  go_ret
  exact ⟨rfl, rfl⟩
theorem sectors_zero (g : Nat) (w : World) (h : Blk w g 32 noDisk) : Calls Try.prog 52 #[.pointer (some ⟨g, 0, none⟩)] w fun e w' => e = .returned (.int .i64 0) ∧ w' = w := by
  go_enter Try.func52, Try.ntmps52
  go_wp2_with fail
  refine (none_zero g w h).mono ?_
  rintro e w1 ⟨rfl, rfl⟩
  clear h
  go_wp2
  go_ret
  exact ⟨rfl, rfl⟩
theorem up_made (w : World) (q : Bool) (hq : ∀ w', w' = w → Calls Try.prog 75 #[.pointer (some ⟨gd, 0, none⟩)] w' fun e w'' => e = .returned (.bool q) ∧ w'' = w') (h : DiskB w gd gl gm N L es c out fz ops) :
    Calls Try.prog 44 #[.pointer (some ⟨gd, 0, none⟩)] w fun e w' => e = .returned (.bool (!q)) ∧ w' = w := by
  go_enter Try.func44, Try.ntmps44
  go_wp2_with fail
  refine (none_made w h).mono ?_
  rintro e w1 ⟨rfl, rfl⟩
  clear h
  go_wp2_with fail
  refine (hq _ rfl).mono ?_
  rintro e w2 ⟨rfl, rfl⟩
  clear hq
  go_wp2
  go_ret
  exact ⟨rfl, rfl⟩
end
end Go.Proofs.Ytmhfehhpfkjloaa

/- A change of a disk that is up, without a fuse: what is to be done is done, and counted. Conditions: the changes are fewer than 10^9; what is to be done keeps to its contract. -/
namespace Go.Proofs.Ytmhfehhpfkjloaa
open Go.RowKit
section
variable {gd gl gm N c : Nat} {L : List UInt8} {es : Array MapEntry} {out : Bool} {fz : Option Nat} {ops : Int}
theorem DiskB.ops_ {w : World} (h : DiskB w gd gl gm N L es c out fz ops) (hne : gd ≠ gl ∧ gd ≠ gm) (x : Int) : DiskB (w.setCell ⟨gd, 4, none⟩ (.int .i64 x)) gd gl gm N L es c out fz x :=
  ⟨(h.1.set_ 4 (.int .i64 x)).sub rfl, h.2.1.off (fun e => hne.1 e.symm) _, h.2.2.upd ((Upd.refl gd w).set 4 _) (fun e => hne.2 e.symm)⟩
set_option maxRecDepth 100000 in
set_option maxHeartbeats 1000000 in
theorem change_up (w : World) (h : DiskB w gd gl gm N L es c out none ops) (hne : gd ≠ gl ∧ gd ≠ gm) (hops : 0 ≤ ops ∧ ops < 1000000000) (k : Nat) (caps : Array Value) (Q : World → Prop) (hcall : ∀ (args : Array Value) (w : World), (callFunc k args).run Try.prog w = .ok (.enter k args) w)
    (hk : ∀ w', DiskB w' gd gl gm N L es c out none (ops + 1) → Upd gd w w' → Calls Try.prog k caps w' fun e w'' => e = .returned (.tuple #[]) ∧ Q w'') :
    Calls Try.prog 71 #[.pointer (some ⟨gd, 0, none⟩), .func (.func k) #[] caps] w fun e w' => e = .returned (.int .i64 0) ∧ Q w' := by
  have d3 := h.1.at_ 3 (v := .pointer none) rfl
  have d4 := h.1.at_ 4 (v := .int .i64 ops) rfl
  have f4 := h.1.frozen 4
  have hK := Lib.hid (hk _ (h.ops_ hne (ops + 1)) ((Upd.refl gd w).set 4 _))
  clear h hk
  go_enter Try.func71, Try.ntmps71
  go_wp2_with fail
  refine hK.out.mono ?_
  rintro e w2 ⟨rfl, hq⟩
  have HQ := Lib.hid hq
  clear hq hK d3 d4 f4
  go_wp2
  go_ret
  exact ⟨rfl, HQ.out⟩
end
end Go.Proofs.Ytmhfehhpfkjloaa

/- Worlds that differ in a few blocks and in new ones alone. Plain facts. No condition. -/
namespace Go
open Go.RowKit
/-- Of the blocks that were there, those of X alone may have been written. -/
structure Near (X : List Nat) (w w' : World) : Prop where
  os : w'.os = w.os
  tape : w'.tape = w.tape
  output : w'.output = w.output
  size : w.heap.size ≤ w'.heap.size
  block : ∀ k, k < w.heap.size → k ∉ X → w'.heap[k]? = w.heap[k]?
section
variable {X Y : List Nat} {w w' w'' : World}
theorem Near.refl (X : List Nat) (w : World) : Near X w w := ⟨rfl, rfl, rfl, Nat.le_refl _, fun _ _ _ => rfl⟩
theorem Near.trans (h : Near X w w') (k : Near X w' w'') : Near X w w'' :=
  ⟨k.os.trans h.os, k.tape.trans h.tape, k.output.trans h.output, Nat.le_trans h.size k.size, fun x hx hn => (k.block x (Nat.lt_of_lt_of_le hx h.size) hn).trans (h.block x hx hn)⟩
theorem Near.wider (h : Near X w w') (hs : ∀ x ∈ X, x ∈ Y) : Near Y w w' := ⟨h.os, h.tape, h.output, h.size, fun k hk hn => h.block k hk fun hx => hn (hs k hx)⟩
theorem Near.below (h : Below w.heap.size w w') : Near X w w' := ⟨h.os, h.tape, h.output, h.size, fun k hk _ => h.block k hk⟩
theorem Near.upd {g : Nat} (u : Upd g w w') (hg : g ∈ X) : Near X w w' := ⟨u.os, u.tape, u.output, by rw [u.size]; exact Nat.le_refl _, fun k _ hn => u.block k fun e => hn (e ▸ hg)⟩
theorem Near.drew (h : Near X w w') : Near X w w'.drew := ⟨h.os, h.tape, h.output, h.size, h.block⟩
/-- Blocks that came later may be written as well. -/
theorem Near.new {g : Nat} (h : Near X w w') (u : Upd g w' w'') (hg : w.heap.size ≤ g) : Near X w w'' :=
  ⟨u.os.trans h.os, u.tape.trans h.tape, u.output.trans h.output, by rw [u.size]; exact h.size, fun k hk hn => (u.block k (by omega)).trans (h.block k hk hn)⟩
theorem Near.toBelow {B : Nat} (h : Near X w w') (hX : ∀ x ∈ X, B ≤ x) (hB : B ≤ w.heap.size) : Below B w w' := ⟨h.os, h.tape, h.output, h.size, fun k hk => h.block k (by omega) fun hx => by have := hX k hx; omega⟩
theorem Blk.near {g : Nat} {t : TypeId} {cs : Array Value} (h : Blk w g t cs) (k : Near X w w') (hn : g ∉ X) : Blk w' g t cs := (k.block g h.lt hn).trans h
theorem MapB.near {g : Nat} {es : Array MapEntry} {c : Nat} (h : MapB w g es c) (k : Near X w w') (hn : g ∉ X) : MapB w' g es c := (k.block g h.lt hn).trans h
theorem Near.cell {p : Addr} (k : Near X w w') (hp : p.block < w.heap.size) (hn : p.block ∉ X) : w'.cell? p = w.cell? p := by
  unfold World.cell?; rw [k.block _ hp hn]
theorem Bytes.near {A : Option Addr} {l : List UInt8} (h : Bytes w A l) (k : Near X w w') (hn : ∀ ad, A = some ad → ad.block ∉ X) : Bytes w' A l := fun hne => by
  obtain ⟨b, off, e, hc⟩ := h hne
  refine ⟨b, off, e, fun j v hv => ?_⟩
  have h1 := hc j v hv
  exact (k.cell (p := ⟨b, off + j, none⟩) (World.block_lt_of_cell? w _ h1) (hn ⟨b, off, none⟩ e)).trans h1
end
end Go

/- The functions that turn a word right, and the tables of constants, answer what the plain functions say. Condition: the count is from 1 to 31. -/
namespace Go.Proofs.Ytmhfehhpfkjloaa
open Go.RowKit
theorem u64_and31 (n : Nat) (h1 : 1 ≤ n) (h2 : n ≤ 31) : bits .and .u64 (IntKind.u64.wrap (-(n : Int))) 31 = ((32 - n : Nat) : Int) := by
  have e : IntKind.u64.wrap (-(n : Int)) = ((18446744073709551616 - n : Nat) : Int) := by
    have : IntKind.u64.wrap (-(n : Int)) = (-(n : Int)) % 18446744073709551616 := by simp [IntKind.wrap, IntKind.bits, IntKind.signed]
    rw [this]; omega
  rw [e]
  have := u64_and_nat (18446744073709551616 - n) 31 (by omega) (by omega)
  have e2 : (18446744073709551616 - n) &&& 31 = 32 - n := by
    have := Nat.and_two_pow_sub_one_eq_mod (18446744073709551616 - n) 5
    simp only [Nat.reducePow, Nat.reduceSub] at this
    rw [this]; omega
  rw [e2] at this
  exact this
set_option maxHeartbeats 400000 in
theorem right_any (x: UInt32) (n : Int) (h1 : 1 ≤ n) (h2 : n ≤ 31) (w : World) :
    Calls Try.prog 115 #[.int .u32 (iu32 x), .int .i64 n] w fun e w' => e = .returned (.int .u32 (iu32 (Sha.rotr x n.toNat))) ∧ ∃ k, w' = w.drewN k := by
  obtain ⟨n, rfl⟩ := Int.eq_ofNat_of_zero_le (show 0 ≤ n by omega)
  have e1 := u32_shr_w x n (by omega)
  have e2 := u32_shl_w x (32 - n) (by omega)
  have e3 : (32 - (n : Int)).toNat = 32 - n := by omega
  go_enter Try.func115, Try.ntmps115
  go_wp2
  go_quiet (fail)
  go_wp2
  go_ret
  exact ⟨rfl, _, rfl⟩
set_option maxHeartbeats 400000 in
theorem rot_any (x: UInt32) (n : Int) (h1 : 1 ≤ n) (h2 : n ≤ 31) (w : World) :
    Calls Try.prog 127 #[.int .u32 (iu32 x), .int .i64 (-n)] w fun e w' => e = .returned (.int .u32 (iu32 (Sha.rotr x n.toNat))) ∧ w = w' := by
  obtain ⟨n, rfl⟩ := Int.eq_ofNat_of_zero_le (show 0 ≤ n by omega)
  have e1 := u32_shr_w x n (by omega)
  have e2 := u32_shl_w x (32 - n) (by omega)
  have e3 : (32 - (n : Int)).toNat = 32 - n := by omega
  have e5 : 32 - (32 - n) = n := by omega
  have e6 : (32 : Int) - ((32 - n : Nat) : Int) = (n : Int) := by omega
  have e4 := u64_and31 n (by omega) (by omega)
  go_enter Try.func127, Try.ntmps127
  go_wp2
  go_ret
  exact ⟨ret_int (by rw [UInt32.or_comm]; rfl), rfl⟩
set_option maxHeartbeats 400000 in
theorem turned_any (x: UInt32) (n : Int) (h1 : 1 ≤ n) (h2 : n ≤ 31) (w : World) :
    Calls Try.prog 114 #[.int .u32 (iu32 x), .int .i64 n] w fun e w' => e = .returned (.int .u32 (iu32 (Sha.rotr x n.toNat))) ∧ w = w' := by
  go_enter Try.func114, Try.ntmps114
  go_wp2_with fail
  refine (rot_any x n h1 h2 _).mono ?_
  rintro e w' ⟨rfl, rfl⟩
  go_wp2
  go_ret
  exact ⟨rfl, rfl⟩
end Go.Proofs.Ytmhfehhpfkjloaa

/- What the blocks hold in which both texts mix 64 bytes in: plain facts on worlds. No condition. -/
namespace Go.Proofs.Ytmhfehhpfkjloaa
open Go.RowKit
def wcell (m : Nat → UInt32) (t i : Nat) : Value := .int .u32 (if i < t then iu32 (Sha.wd m i) else 0)
def zero64 : Array Value := arr 64 fun _ => .int .u32 0
def zero8 : Array Value := arr 8 fun _ => .int .u32 0
def karr : Array Value := arr 64 fun i => .int .u32 (iu32 (Sha.kt i))
def st8 (s : Sha.St) : Array Value := #[.int .u32 (iu32 s.a), .int .u32 (iu32 s.b), .int .u32 (iu32 s.c), .int .u32 (iu32 s.d), .int .u32 (iu32 s.e), .int .u32 (iu32 s.f), .int .u32 (iu32 s.g), .int .u32 (iu32 s.h)]
theorem st8_arr (s : Sha.St) : st8 s = arr 8 fun i => .int .u32 (iu32 (Sha.get s i)) := rfl
/-- The eight words, of which the first t have been added to. -/
def sum8 (s x : Sha.St) (t : Nat) : Array Value := arr 8 fun i => .int .u32 (iu32 (if i < t then Sha.get s i + Sha.get x i else Sha.get s i))
theorem sum8_zero (s x : Sha.St) : st8 s = sum8 s x 0 := by rw [st8_arr]; exact arr_congr fun i _ => by simp
theorem sum8_get (s x : Sha.St) (t : Nat) (h : t < 8) : (sum8 s x t)[t]? = some (.int .u32 (iu32 (Sha.get s t))) := by rw [sum8, arr_at _ h]; simp
theorem st8_get (x : Sha.St) (t : Nat) (h : t < 8) : (st8 x)[t]? = some (.int .u32 (iu32 (Sha.get x t))) := by rw [st8_arr, arr_at _ h]
theorem sum8_set (s x : Sha.St) (t : Nat) : (sum8 s x t).setIfInBounds t (.int .u32 (iu32 (Sha.get s t + Sha.get x t))) = sum8 s x (t + 1) := by
  unfold sum8
  rw [arr_set]
  refine arr_congr fun i _ => ?_
  by_cases e : i = t
  · subst e; simp
  · rw [if_neg e]
    by_cases e2 : i < t
    · rw [if_pos e2, if_pos (by omega)]
    · rw [if_neg e2, if_neg (by omega)]
theorem sum8_all (s x : Sha.St) : sum8 s x 8 = st8 (Sha.add s x) := by
  rw [st8_arr]
  refine arr_congr fun i hi => ?_
  rw [if_pos hi]
  match i, hi with
  | 0, _ => rfl
  | 1, _ => rfl
  | 2, _ => rfl
  | 3, _ => rfl
  | 4, _ => rfl
  | 5, _ => rfl
  | 6, _ => rfl
  | 7, _ => rfl
theorem st8_size (s : Sha.St) : (st8 s).size = 8 := rfl
theorem karr_size : karr.size = 64 := arr_size _ _
theorem zero8_size : zero8.size = 8 := arr_size _ _
theorem zero64_size : zero64.size = 64 := arr_size _ _
theorem st8_one (s : Sha.St) : (st8 s).all (·.oneCell') = true := by simp [st8, Value.oneCell']
theorem size8 : (Try.prog.info? 157).map (·.size) = some 8 := by kernel_rfl
theorem alloc64 (w : World) : (zeroValue 158).run Try.prog w = .ok (.agg zero64) w := by
  have h : (Try.prog.info? 158).map (fun i => (i.zero, i.size)) = some (some (.agg zero64), 64) := by kernel_rfl
  exact (zero_of_info h).1 w
/-- What the function's own blocks hold: the words, the constants, the result's place, the schedule. -/
structure BInv (T : TypeId) (w0 wr : World) (hs : Sha.St) (m : Nat → UInt32) (t : Nat) : Prop where
  ww : Blk wr (w0.heap.size + 1 + 1 + 1) 158 (arr 64 (wcell m t))
  hh : Blk wr w0.heap.size T (st8 hs)
  kk : Blk wr (w0.heap.size + 1) 158 karr
  zz : Blk wr (w0.heap.size + 1 + 1) T zero8
  bel : Below w0.heap.size w0 wr
theorem BInv.drewN {T : TypeId} {w0 wr : World} {hs : Sha.St} {m : Nat → UInt32} {t : Nat} (h : BInv T w0 wr hs m t) (k : Nat) : BInv T w0 (wr.drewN k) hs m t :=
  ⟨h.ww, h.hh, h.kk, h.zz, ⟨h.bel.os, h.bel.tape, h.bel.output, h.bel.size, h.bel.block⟩⟩
theorem BInv.store {T : TypeId} {w0 wr : World} {hs : Sha.St} {m : Nat → UInt32} {t : Nat} (h : BInv T w0 wr hs m t) (x : UInt32) (hx : Sha.wd m t = x) :
    BInv T w0 (wr.setCell ⟨w0.heap.size + 1 + 1 + 1, t, none⟩ (.int .u32 (iu32 x))).drew hs m (t + 1) := by
  refine ⟨?_, h.hh.off (by omega) _, h.kk.off (by omega) _, h.zz.off (by omega) _, (h.bel.set_ (by omega) _).drew⟩
  have hs := h.ww.set_ t (.int .u32 (iu32 x))
  rw [arr_set] at hs
  refine hs.sub (arr_congr fun i hi => ?_)
  unfold wcell
  by_cases e : i = t
  · subst e; rw [if_pos rfl, if_pos (by omega), hx]
  · rw [if_neg e]; by_cases e2 : i < t
    · rw [if_pos e2, if_pos (by omega)]
    · rw [if_neg e2, if_neg (by omega)]
theorem BInv.get {T : TypeId} {w0 wr : World} {hs : Sha.St} {m : Nat → UInt32} {t : Nat} (h : BInv T w0 wr hs m t) {i : Nat} (hi : i < t) (h64 : i < 64) :
    wr.cell? ⟨w0.heap.size + 1 + 1 + 1, i, none⟩ = some (.int .u32 (iu32 (Sha.wd m i))) := by
  rw [h.ww.cell i, arr_at _ h64, wcell, if_pos hi]
theorem BInv.get' {T : TypeId} {w0 wr : World} {hs : Sha.St} {m : Nat → UInt32} {t : Nat} (h : BInv T w0 wr hs m t) {i : Nat} (h64 : i < 64) :
    wr.cell? ⟨w0.heap.size + 1 + 1 + 1, i, none⟩ = some (wcell m t i) := by
  rw [h.ww.cell i, arr_at _ h64]
theorem BInv.new (T : TypeId) (w : World) (hs : Sha.St) (m : Nat → UInt32) : BInv T w ((((w.alloc (.cells (st8 hs) T)).alloc (.cells karr 158)).alloc (.cells #[.int .u32 0, .int .u32 0, .int .u32 0, .int .u32 0, .int .u32 0, .int .u32 0, .int .u32 0, .int .u32 0] T)).alloc (.cells zero64 158)) hs m 0 := by
  refine ⟨?_, ?_, ?_, ?_, ?_⟩
  · exact Blk.new' _ _ _ (by simp)
  · exact ((Blk.new' _ _ _ rfl).alloc _).alloc _ |>.alloc _
  · exact ((Blk.new' _ _ _ (by simp)).alloc _).alloc _
  · exact ((Blk.new' _ _ _ (by simp)).alloc _)
  · exact (((Below.refl _ _).alloc (by simp) _).alloc (by simp) _ |>.alloc (by simp; omega) _).alloc (by simp; omega) _
theorem BInv.alloc {T : TypeId} {w0 wr : World} {hs : Sha.St} {m : Nat → UInt32} {t : Nat} (h : BInv T w0 wr hs m t) (o : Obj) : BInv T w0 (wr.alloc o) hs m t :=
  ⟨h.ww.alloc o, h.hh.alloc o, h.kk.alloc o, h.zz.alloc o, h.bel.alloc (by have := h.hh.lt; omega) o⟩
theorem BInv.upd {T : TypeId} {w0 wr w' : World} {hs : Sha.St} {m : Nat → UInt32} {t g : Nat} (h : BInv T w0 wr hs m t) (u : Upd g wr w') (hg : w0.heap.size + 1 + 1 + 1 < g) : BInv T w0 w' hs m t :=
  ⟨h.ww.upd u (by omega), h.hh.upd u (by omega), h.kk.upd u (by omega), h.zz.upd u (by omega), h.bel.upd u (by omega)⟩
theorem zero8_new (T : TypeId) (w : World) : Blk (w.alloc (.cells #[.int .u32 0, .int .u32 0, .int .u32 0, .int .u32 0, .int .u32 0, .int .u32 0, .int .u32 0, .int .u32 0] T)) w.heap.size T zero8 := Blk.new _ _ _
/-- While word number t is being read: what it is so far. -/
structure PInv (T : TypeId) (w0 wr : World) (hs : Sha.St) (m : Nat → UInt32) (t : Nat) (p : UInt32) : Prop where
  ww : Blk wr (w0.heap.size + 1 + 1 + 1) 158 (arr 64 fun j => if j = t then .int .u32 (iu32 p) else wcell m t j)
  hh : Blk wr w0.heap.size T (st8 hs)
  kk : Blk wr (w0.heap.size + 1) 158 karr
  zz : Blk wr (w0.heap.size + 1 + 1) T zero8
  bel : Below w0.heap.size w0 wr
theorem BInv.part {T : TypeId} {w0 wr : World} {hs : Sha.St} {m : Nat → UInt32} {t : Nat} (h : BInv T w0 wr hs m t) : PInv T w0 wr hs m t 0 :=
  ⟨h.ww.sub (arr_congr fun j _ => by by_cases e : j = t <;> simp [e, wcell, iu32]), h.hh, h.kk, h.zz, h.bel⟩
theorem PInv.get {T : TypeId} {w0 wr : World} {hs : Sha.St} {m : Nat → UInt32} {t : Nat} {p : UInt32} (h : PInv T w0 wr hs m t p) (h64 : t < 64) :
    wr.cell? ⟨w0.heap.size + 1 + 1 + 1, t, none⟩ = some (.int .u32 (iu32 p)) := by
  rw [h.ww.cell t, arr_at _ h64, if_pos rfl]
theorem PInv.store {T : TypeId} {w0 wr : World} {hs : Sha.St} {m : Nat → UInt32} {t : Nat} {p : UInt32} (h : PInv T w0 wr hs m t p) (x : UInt32) :
    PInv T w0 (wr.setCell ⟨w0.heap.size + 1 + 1 + 1, t, none⟩ (.int .u32 (iu32 x))).drew hs m t x := by
  refine ⟨?_, h.hh.off (by omega) _, h.kk.off (by omega) _, h.zz.off (by omega) _, (h.bel.set_ (by omega) _).drew⟩
  have hs := h.ww.set_ t (.int .u32 (iu32 x))
  rw [arr_set] at hs
  refine hs.sub (arr_congr fun i hi => ?_)
  by_cases e : i = t
  · simp [e]
  · simp [e]
theorem PInv.whole {T : TypeId} {w0 wr : World} {hs : Sha.St} {m : Nat → UInt32} {t : Nat} {p : UInt32} (h : PInv T w0 wr hs m t p) (e : p = Sha.wd m t) : BInv T w0 wr hs m (t + 1) := by
  subst e
  refine ⟨h.ww.sub (arr_congr fun j _ => ?_), h.hh, h.kk, h.zz, h.bel⟩
  by_cases e : j = t
  · simp [e, wcell]
  · simp only [if_neg e, wcell]
    by_cases e2 : j < t
    · rw [if_pos e2, if_pos (by omega)]
    · rw [if_neg e2, if_neg (by omega)]
theorem quiet_left {P : Program} {f : FuncId} {args : Array Value} {w : World} {n : Nat} {v : Value}
    (h : Calls P f args (w.drewN n) fun e w' => e = .returned v ∧ w.drewN n = w') : Calls P f args (w.drewN n) fun e w'' => e = .returned v ∧ ∃ m, w'' = w.drewN m :=
  h.mono fun _ _ ⟨he, hm⟩ => ⟨he, n, hm.symm⟩

end Go.Proofs.Ytmhfehhpfkjloaa

/- The program's mixing in of a block answers what the plain function says. Condition: there are 64 bytes. -/
namespace Go.Proofs.Ytmhfehhpfkjloaa
open Go.RowKit
set_option maxHeartbeats 1000000 in
set_option maxRecDepth 100000 in
theorem block_any (hs : Sha.St) (b off n c : Nat) (bs : List UInt8) (hn : n = bs.length) (h64 : 64 ≤ n)
   (w : World) (hbl : b < w.heap.size) (hb : ∀ j, j < n → w.cell? ⟨b, off + j, none⟩ = some (.int .u8 (iu8 (bs.getD j 0)))) :
    Calls Try.prog 106 #[.agg (st8 hs), .slice (some ⟨b, off, none⟩) n c, .agg karr] w fun e w' => e = .returned (.agg (st8 (Sha.blk hs bs 0))) ∧ Below w.heap.size w w' := by
  have a64 := alloc64
  have HN := Lib.hid hn; clear hn
  have HB := Lib.hid hb; clear hb
  go_enter Try.func106, Try.ntmps106
  go_wp2
  go_loopw [19] (fun i wr => ∃ t : Nat, t ≤ 16 ∧ i = .int .i64 t ∧ BInv 157 w wr hs (Sha.word bs 0) t) (fun i _ => 16 - (intOf i).toNat)
  case atStart => exact ⟨0, by omega, rfl, BInv.new _ w hs _⟩
  case round =>
    obtain ⟨t, ht, rfl, hI⟩ := hrel
    by_cases hlt : t < 16
    · obtain ⟨x0, h0⟩ : ∃ x, x = bs.getD (4 * t) 0 := ⟨_, rfl⟩
      obtain ⟨x1, h1⟩ : ∃ x, x = bs.getD (4 * t + 1) 0 := ⟨_, rfl⟩
      obtain ⟨x2, h2⟩ : ∃ x, x = bs.getD (4 * t + 2) 0 := ⟨_, rfl⟩
      obtain ⟨x3, h3⟩ : ∃ x, x = bs.getD (4 * t + 3) 0 := ⟨_, rfl⟩
      have c0 := (hI.bel.cell (p := ⟨b, off + 4 * t, none⟩) hbl).trans (HB.out (4 * t) (by omega))
      have c1 := (hI.bel.cell (p := ⟨b, off + (4 * t + 1), none⟩) hbl).trans (HB.out (4 * t + 1) (by omega))
      have c2 := (hI.bel.cell (p := ⟨b, off + (4 * t + 2), none⟩) hbl).trans (HB.out (4 * t + 2) (by omega))
      have c3 := (hI.bel.cell (p := ⟨b, off + (4 * t + 3), none⟩) hbl).trans (HB.out (4 * t + 3) (by omega))
      rw [← h0] at c0; rw [← h1] at c1; rw [← h2] at c2; rw [← h3] at c3
      have HW := Lib.hid (show Sha.wd (Sha.word bs 0) t = Sha.be x0 x1 x2 x3 by rw [Sha.wd_lo _ hlt, h0, h1, h2, h3]; simp [Sha.word])
      clear h0 h1 h2 h3
      have c4 := hI.get' (i := t) (by omega)
      have c5 := hI.ww.frozen t
      go_wp2
      refine wp_region_tail 35 (by kernel_rfl) (by kernel_rfl) ?_
      simp only [List.take_succ_cons, List.take_zero, List.drop_succ_cons, List.drop_zero]
      repeat (go_big_quiet_step (fail))
      refine wpQuiet_nil ?_
      go_wp2
      go_roundw
      case rel => exact ⟨t + 1, by omega, by go_num, hI.store _ HW.out⟩
      case measure => simp [intOf]; omega
    · obtain rfl : t = 16 := by omega
      clear ht hlt
      go_wp2
      go_loopw [9] (fun i wr => ∃ t : Nat, 16 ≤ t ∧ t ≤ 64 ∧ i = .int .i64 t ∧ BInv 157 w wr hs (Sha.word bs 0) t) (fun i _ => 64 - (intOf i).toNat)
      case atStart => exact ⟨16, by omega, by omega, rfl, hI⟩
      case round =>
        clear hI
        obtain ⟨t, ht1, ht2, rfl, hI⟩ := hrel
        by_cases hlt : t < 64
        · go_wp2
          obtain ⟨y2, h2⟩ : ∃ y, y = Sha.wd (Sha.word bs 0) (t - 2) := ⟨_, rfl⟩
          obtain ⟨y7, h7⟩ : ∃ y, y = Sha.wd (Sha.word bs 0) (t - 7) := ⟨_, rfl⟩
          obtain ⟨y15, h15⟩ : ∃ y, y = Sha.wd (Sha.word bs 0) (t - 15) := ⟨_, rfl⟩
          obtain ⟨y16, h16⟩ : ∃ y, y = Sha.wd (Sha.word bs 0) (t - 16) := ⟨_, rfl⟩
          have HW := Lib.hid (show Sha.wd (Sha.word bs 0) t = Sha.s1 y2 + y7 + Sha.s0 y15 + y16 by rw [h2, h7, h15, h16]; exact Sha.wd_hi _ ht1)
          have c15 := hI.get (i := t - 15) (by omega) (by omega)
          rw [← h15] at c15
          have H2 := Lib.hid h2; have H7 := Lib.hid h7; have H15 := Lib.hid h15; have H16 := Lib.hid h16
          clear h2 h7 h15 h16
          go_quiet ((go_at_call 114; exact quiet_left (turned_any _ _ (by omega) (by omega) _)))
          go_wp2
          have hI1 := hI.drewN nq
          clear hI c15
          generalize wr.drewN nq = w1 at hI1 ⊢
          have c2 := hI1.get (i := t - 2) (by omega) (by omega)
          rw [← H2.out] at c2
          go_quiet ((go_at_call 114; exact quiet_left (turned_any _ _ (by omega) (by omega) _)))
          go_wp2
          have hI2 := hI1.drewN nq
          clear hI1 c2
          generalize w1.drewN nq = w2 at hI2 ⊢
          have c7 := hI2.get (i := t - 7) (by omega) (by omega)
          have c16 := hI2.get (i := t - 16) (by omega) (by omega)
          rw [← H7.out] at c7
          rw [← H16.out] at c16
          have c0 := hI2.get' hlt
          have cf := hI2.ww.frozen t
          refine wp_region_tail 15 (by kernel_rfl) (by kernel_rfl) ?_
          simp only [List.take_succ_cons, List.take_zero, List.drop_succ_cons, List.drop_zero]
          repeat (go_big_quiet_step (fail))
          refine wpQuiet_nil ?_
          go_wp2
          go_roundw
          case rel => exact ⟨t + 1, by omega, by omega, by go_num, hI2.store _ (HW.out)⟩
          case measure => simp [intOf]; omega
        · obtain rfl : t = 64 := by omega
          clear ht1 ht2 hlt
          have hX := hI.ww.lt
          have hz8 := zero8_new 157 wr
          go_wp2_with (first
            | (refine wpList_load_blk (o := ⟨some 111, _, _, _, _, _⟩) hI.hh (by rfl) _ _ (by rfl) (by rfl) _ Try.underlying157 (by rfl) size8 (st8_size _) ?_)
            | (show wpList _ _ _ ((⟨none, _, _, _, _, _⟩ : Oper) :: _) _ _; (refine wpList_store_blk (o := ⟨none, _, _, _, _, _⟩) hz8 (by rfl) _ _ _ (by rfl) (by rfl) (st8 hs) (by rfl) size8 zero8_size (st8_size _) (st8_one _) ?_; intro w3 hx3 hu3; have hI3 := (hI.alloc _).upd hu3 (by omega); clear hI hu3 hz8)))
          generalize wr.heap.size = X at hX hx3 ⊢
          go_loopw [112] (fun i wr => ∃ t : Nat, t ≤ 64 ∧ i = .int .i64 t ∧ BInv 157 w wr hs (Sha.word bs 0) 64 ∧ Blk wr X 157 (st8 (Sha.rounds (Sha.word bs 0) hs t))) (fun i _ => 64 - (intOf i).toNat)
          case atStart => exact ⟨0, by omega, rfl, hI3, hx3⟩
          case round =>
            clear hI3 hx3
            obtain ⟨t, ht, rfl, hI, hx⟩ := hrel
            by_cases hlt : t < 64
            · obtain ⟨s, hs'⟩ : ∃ s, s = Sha.rounds (Sha.word bs 0) hs t := ⟨_, rfl⟩
              rw [← hs'] at hx
              obtain ⟨k, hk'⟩ : ∃ k, k = Sha.kt t := ⟨_, rfl⟩
              obtain ⟨y, hy'⟩ : ∃ k, k = Sha.wd (Sha.word bs 0) t := ⟨_, rfl⟩
              have HS := Lib.hid (show Sha.rounds (Sha.word bs 0) hs (t + 1) = Sha.round k y s by rw [hs', hk', hy']; rfl)
              have HK := Lib.hid hk'
              have HY := Lib.hid hy'
              clear hs' hk' hy'
              have r0 : wr.cell? ⟨X, 0, none⟩ = some (.int .u32 (iu32 s.a)) := hx.cell 0
              have r4 : wr.cell? ⟨X, 4, none⟩ = some (.int .u32 (iu32 s.e)) := hx.cell 4
              go_wp2
              go_quiet (fail)
              go_wp2
              replace hI := hI.drewN nq
              replace hx := hx.drewN nq
              clear r0 r4
              generalize wr.drewN nq = w1 at hI hx ⊢
              have r7 : w1.cell? ⟨X, 7, none⟩ = some (.int .u32 (iu32 s.h)) := hx.cell 7
              have r5 : w1.cell? ⟨X, 5, none⟩ = some (.int .u32 (iu32 s.f)) := hx.cell 5
              have r6 : w1.cell? ⟨X, 6, none⟩ = some (.int .u32 (iu32 s.g)) := hx.cell 6
              have rw := hI.get (i := t) hlt hlt
              have rk : w1.cell? ⟨w.heap.size + 1, t, none⟩ = some (.int .u32 (iu32 (Sha.kt t))) := by rw [hI.kk.cell t]; exact arr_at _ hlt
              rw [← HY.out] at rw
              rw [← HK.out] at rk
              go_quiet ((go_at_call 114; exact quiet_left (turned_any _ _ (by omega) (by omega) _)))
              go_wp2
              replace hI := hI.drewN nq
              replace hx := hx.drewN nq
              clear r7 r5 r6 rw rk
              generalize w1.drewN nq = w2 at hI hx ⊢
              have r1 : w2.cell? ⟨X, 1, none⟩ = some (.int .u32 (iu32 s.b)) := hx.cell 1
              have r2 : w2.cell? ⟨X, 2, none⟩ = some (.int .u32 (iu32 s.c)) := hx.cell 2
              go_quiet ((go_at_call 114; exact quiet_left (turned_any _ _ (by omega) (by omega) _)))
              replace hI := hI.drewN nq
              replace hx := hx.drewN nq
              clear r1 r2
              generalize w2.drewN nq = w3 at hI hx ⊢
              have r1 : w3.cell? ⟨X, 1, none⟩ = some (.int .u32 (iu32 s.b)) := hx.cell 1
              have r2 : w3.cell? ⟨X, 2, none⟩ = some (.int .u32 (iu32 s.c)) := hx.cell 2
              have r3 : w3.cell? ⟨X, 3, none⟩ = some (.int .u32 (iu32 s.d)) := hx.cell 3
              have r5 : w3.cell? ⟨X, 5, none⟩ = some (.int .u32 (iu32 s.f)) := hx.cell 5
              have r6 : w3.cell? ⟨X, 6, none⟩ = some (.int .u32 (iu32 s.g)) := hx.cell 6
              go_wp2_with (show wpList _ _ _ ((⟨none, _, _, _, _, _⟩ : Oper) :: _) _ _; ((refine wpList_store_blk (o := ⟨none, _, _, _, _, _⟩) hx (by rfl) _ _ _ (by rfl) (by rfl) (st8 (Sha.round k y s)) (by first | rfl | refine Eq.trans (b := Value.agg #[.int .u32 ((iu32 _ + iu32 _) % 4294967296), _, _, _, .int .u32 ((iu32 _ + iu32 _) % 4294967296), _, _, _]) rfl ?_; simp only [u32_add_w]; rfl) size8 (st8_size _) (st8_size _) (st8_one _) ?_; intro w4 hx4 hu4; have hI4 := hI.upd hu4 (by omega); clear hI hx hu4 r1 r2 r3 r5 r6)))
              go_roundw
              case rel => exact ⟨t + 1, by omega, by go_num, hI4, by rw [HS.out]; exact hx4⟩
              case measure => simp [intOf]; omega
            · obtain rfl : t = 64 := by omega
              obtain ⟨xs, hxs⟩ : ∃ s, s = Sha.rounds (Sha.word bs 0) hs 64 := ⟨_, rfl⟩
              rw [← hxs] at hx
              have HX := Lib.hid (show Sha.blk hs bs 0 = Sha.add hs xs by rw [hxs]; rfl)
              clear hxs ht hlt
              have hh0 := hI.hh.sub (sum8_zero hs xs)
              go_wp2
              go_loopw [192] (fun i wr => ∃ t : Nat, t ≤ 8 ∧ i = .int .i64 t ∧ Blk wr w.heap.size 157 (sum8 hs xs t) ∧ Blk wr (w.heap.size + 1 + 1) 157 zero8 ∧ Blk wr X 157 (st8 xs) ∧ Below w.heap.size w wr) (fun i _ => 8 - (intOf i).toNat)
              case atStart => exact ⟨0, by omega, rfl, hh0, hI.zz, hx, hI.bel⟩
              case round =>
                clear hI hx hh0
                obtain ⟨t, ht, rfl, hh, hz, hx, hbel⟩ := hrel
                by_cases hlt : t < 8
                · have c0 := (hh.cell t).trans (sum8_get hs xs t hlt)
                  have c1 := (hx.cell t).trans (st8_get xs t hlt)
                  have cf := hh.frozen t
                  go_wp2
                  refine wp_region_tail 8 (by kernel_rfl) (by kernel_rfl) ?_
                  simp only [List.take_succ_cons, List.take_zero, List.drop_succ_cons, List.drop_zero]
                  repeat (go_big_quiet_step (fail))
                  refine wpQuiet_nil ?_
                  go_wp2
                  go_roundw
                  case rel =>
                    refine ⟨t + 1, by omega, by go_num, ?_, hz.off (by omega) _, hx.off (by omega) _, (hbel.set_ (by omega) _).drew⟩
                    have := hh.set_ t (.int .u32 (iu32 (Sha.get hs t + Sha.get xs t)))
                    rw [sum8_set] at this
                    first | exact this | (rw [← u32_add_w] at this; exact this)
                  case measure => simp [intOf]; omega
                · obtain rfl : t = 8 := by omega
                  rw [sum8_all] at hh
                  go_wp2_with (first
                    | (show wpList _ _ _ ((⟨some 204, _, _, _, _, _⟩ : Oper) :: _) _ _; (refine wpList_load_blk (o := ⟨some 204, _, _, _, _, _⟩) hh (by rfl) _ _ (by rfl) (by rfl) _ Try.underlying157 (by rfl) size8 (st8_size _) ?_))
                    | (show wpList _ _ _ ((⟨none, _, _, _, _, _⟩ : Oper) :: _) _ _; (refine wpList_store_blk (o := ⟨none, _, _, _, _, _⟩) hz (by rfl) _ _ _ (by rfl) (by rfl) (st8 (Sha.add hs xs)) (by rfl) size8 zero8_size (st8_size _) (st8_one _) ?_; intro w5 hz5 hu5; have hbel5 := hbel.upd hu5 (by omega); clear hbel hh hz hx hu5)))
                  refine bodyPost_ret (results_cell_row (by rfl) _ _ _ _ _ _ _ (by rfl) hz5 Try.underlying157 (by rfl) size8) rfl ⟨?_, hbel5⟩
                  rw [HX.out]
end Go.Proofs.Ytmhfehhpfkjloaa

/- What the blocks hold in which both texts make a seal: plain facts on worlds. No condition. -/
namespace Go.Proofs.Ytmhfehhpfkjloaa
open Go.RowKit
theorem size64 : (Try.prog.info? 158).map (·.size) = some 64 := by kernel_rfl
theorem karr_one : karr.all (·.oneCell') = true := by kernel_rfl

def lenOf : Value → Nat
  | .slice _ n _ => n
  | _ => 0
def zero16 : Array Value := arr 16 fun _ => .int .u8 0
theorem size16 : (Try.prog.info? 105).map (·.size) = some 16 := by kernel_rfl
theorem alloc16 (w : World) : (zeroValue 105).run Try.prog w = .ok (.agg zero16) w := by
  have h : (Try.prog.info? 105).map (fun i => (i.zero, i.size)) = some (some (.agg zero16), 16) := by kernel_rfl
  exact (zero_of_info h).1 w
/-- What the call's own blocks hold: the words, the constants. -/
structure SInv (T : TypeId) (w0 wr : World) (H K : Nat) (s : Sha.St) : Prop where
  hh : Blk wr H T (st8 s)
  kk : Blk wr K 158 karr
  rr : Blk wr w0.heap.size 105 zero16
  h1 : w0.heap.size < H
  h2 : H < K
  bel : Below w0.heap.size w0 wr
theorem SInv.below {T : TypeId} {w0 wr w' : World} {H K : Nat} {s : Sha.St} (h : SInv T w0 wr H K s) (hb : Below wr.heap.size wr w') : SInv T w0 w' H K s :=
  ⟨h.hh.below hb h.hh.lt, h.kk.below hb h.kk.lt, h.rr.below hb h.rr.lt, h.h1, h.h2, h.bel.trans (hb.mono h.bel.size)⟩
theorem SInv.stored {T : TypeId} {w0 wr w' : World} {H K : Nat} {s s' : Sha.St} (h : SInv T w0 wr H K s) (hb : Blk w' H T (st8 s')) (u : Upd H wr w') : SInv T w0 w' H K s' :=
  ⟨hb, h.kk.upd u (by have := h.h2; omega), h.rr.upd u (by have := h.h1; omega), h.h1, h.h2, h.bel.upd u (by have := h.h1; omega)⟩

theorem SInv.grown {T : TypeId} {w0 wr w' : World} {H K : Nat} {s : Sha.St} {row : Option Nat} (h : SInv T w0 wr H K s) (hg : wr.grownBy w' row) (hr : ∀ k, row = some k → K < k) : SInv T w0 w' H K s := by
  have hne : ∀ k, k ≤ K → some k ≠ row := fun k hk e => by have := hr k e.symm; omega
  have h1 := h.h1
  have h2 := h.h2
  exact ⟨(hg.block _ h.hh.lt (hne _ (by omega))).trans h.hh, (hg.block _ h.kk.lt (hne _ (by omega))).trans h.kk, (hg.block _ h.rr.lt (hne _ (by omega))).trans h.rr, h.h1, h.h2,
    h.bel.grown hg h.bel.size (fun k hk => by have := hr k hk; omega)⟩
theorem SInv.alloc {T : TypeId} {w0 wr : World} {H K : Nat} {s : Sha.St} (h : SInv T w0 wr H K s) (o : Obj) : SInv T w0 (wr.alloc o) H K s := h.below ((Below.refl _ _).alloc (Nat.le_refl _) o)
/-- The 16 bytes, of which the first 4 i have been laid. -/
def darr (x : Sha.St) (i : Nat) : Array Value := arr 16 fun k => if k < 4 * i then u8v (Sha.outAt x k) else .int .u8 0
theorem darr_zero (x : Sha.St) : zero16 = darr x 0 := arr_congr fun i _ => by simp
theorem darr_all (x : Sha.St) : darr x 4 = ((Sha.out x).map u8v).toArray := by
  unfold Sha.out
  rw [List.map_map, arr_list]
  exact arr_congr fun i h => by simp [h]
theorem byte_eq (y : UInt32) (i : Nat) : iu32 y / 2 ^ (24 - 8 * i) % 256 = iu8 (Sha.byte y i) := by
  rw [Sha.byte, iu8_ofNat_mod]; unfold iu32; simp
theorem darr_set (x : Sha.St) (i : Nat) (y : UInt32) (hy : y = Sha.get x i) :
    ((((darr x i).setIfInBounds (4 * i) (.int .u8 (iu8 (Sha.byte y 0)))).setIfInBounds (4 * i + 1) (.int .u8 (iu8 (Sha.byte y 1)))).setIfInBounds (4 * i + 2) (.int .u8 (iu8 (Sha.byte y 2)))).setIfInBounds (4 * i + 3) (.int .u8 (iu8 (Sha.byte y 3))) = darr x (i + 1) := by
  unfold darr
  rw [arr_set, arr_set, arr_set, arr_set]
  refine arr_congr fun k _ => ?_
  have hv : ∀ r, r < 4 → u8v (Sha.outAt x (4 * i + r)) = .int .u8 (iu8 (Sha.byte y r)) := fun r hr => by
    have e1 : (4 * i + r) / 4 = i := by omega
    have e2 : (4 * i + r) % 4 = r := by omega
    unfold Sha.outAt u8v
    rw [e1, e2, hy]
  by_cases h3 : k = 4 * i + 3
  · rw [if_pos h3, if_pos (by omega), h3, hv 3 (by omega)]
  rw [if_neg h3]
  by_cases h2 : k = 4 * i + 2
  · rw [if_pos h2, if_pos (by omega), h2, hv 2 (by omega)]
  rw [if_neg h2]
  by_cases h1 : k = 4 * i + 1
  · rw [if_pos h1, if_pos (by omega), h1, hv 1 (by omega)]
  rw [if_neg h1]
  by_cases h0 : k = 4 * i
  · have := hv 0 (by omega)
    rw [if_pos h0, if_pos (by omega), h0]; exact this.symm
  rw [if_neg h0]
  by_cases hk : k < 4 * i
  · rw [if_pos hk, if_pos (by omega)]
  · rw [if_neg hk, if_neg (by omega)]
theorem SInv.off {T : TypeId} {w0 wr : World} {H K D i : Nat} {s : Sha.St} (h : SInv T w0 wr H K s) (hD : K < D) (u : Value) : SInv T w0 (wr.setCell ⟨D, i, none⟩ u) H K s :=
  ⟨h.hh.off (by have := h.h2; omega) u, h.kk.off (by omega) u, h.rr.off (by have := h.h1; have := h.h2; omega) u, h.h1, h.h2, h.bel.set_ (by have := h.h1; have := h.h2; omega) u⟩
end Go.Proofs.Ytmhfehhpfkjloaa
