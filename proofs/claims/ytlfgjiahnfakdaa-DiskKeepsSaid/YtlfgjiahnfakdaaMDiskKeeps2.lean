/- Maps keyed by ints, in a block of the call's own: what is looked up, stored, cleared, made. Plain facts over any program. No condition. -/
import Derived.Test.YtlfgjiahnfakdaaMDiskKeeps1
import Derived.MapKept
import Derived.Deep.MidRow
import Derived.Test.YtlfgjiahnfakdaaRows
import Derived.Laws.BytesArg
import Derived.Laws.CopyOwn
import Derived.BigQuiet
import Derived.Lib.SlBytesConst
namespace Go
open Go.RowKit Go.Instr Go.MapKept
/-- A map's block. -/
def MapB (w : World) (g : Nat) (es : Array MapEntry) (c : Nat) : Prop := w.heap[g]? = some (.map es c)
section
variable {w w' : World} {g : Nat} {es : Array MapEntry} {c : Nat}
theorem MapB.lt (h : MapB w g es c) : g < w.heap.size := (Array.getElem?_eq_some_iff.1 h).1
theorem MapB.below {B : Nat} (h : MapB w g es c) (hb : Below B w w') (hlt : g < B) : MapB w' g es c := (hb.block g hlt).trans h
theorem MapB.upd {k : Nat} (h : MapB w g es c) (u : Upd k w w') (hne : g ≠ k) : MapB w' g es c := (u.block g hne).trans h
theorem MapB.drew (h : MapB w g es c) : MapB w.drew g es c := h
theorem MapB.alloc (h : MapB w g es c) (o : Obj) : MapB (w.alloc o) g es c := by
  have hl := h.lt
  unfold MapB at *
  rw [← h]
  exact ((Below.refl w.heap.size w).alloc (Nat.le_refl _) o).block g hl
theorem MapB.new (w : World) (es : Array MapEntry) (c : Nat) : MapB (w.alloc (.map es c)) w.heap.size es c := heap_alloc_last w _
instance : KeepsTo w w' (MapB w g es c) (MapB w' g es c) := ⟨fun hb h => h.below hb h.lt⟩
end
/-- The place and the element of a key. -/
def mfind : List MapEntry → Int → Nat → Option (Nat × Value)
  | [], _, _ => none
  | e :: es, a, i => match e.key with
    | .int .i64 b => if a = b then some (i, e.val) else mfind es a (i + 1)
    | _ => mfind es a (i + 1)
def IntKeys (es : List MapEntry) : Prop := ∀ e ∈ es, ∃ a, e.key = .int .i64 a
def mget (es : Array MapEntry) (a : Int) : Option Value := (mfind es.toList a 0).map (·.2)
theorem findNow_int (a : Int) : ∀ (es : List MapEntry) (i : Nat), IntKeys es → findNow (.int .i64) (.int .i64 a) es i = some (mfind es a i)
  | [], _, _ => rfl
  | e :: es, i, h => by
    obtain ⟨b, hb⟩ := h e (.head _)
    have ih := findNow_int a es (i + 1) (fun x hx => h x (.tail _ hx))
    unfold findNow mfind
    rw [hb]
    by_cases hab : a = b
    · subst hab; simp [sameNow]
    · simp only [sameNow, if_true, beq_eq_false_iff_ne.2 hab, if_neg hab, ih]
/-- What a store leaves. -/
def mput (es : Array MapEntry) (c : Nat) (a : Int) (v : Value) : Array MapEntry × Nat :=
  match mfind es.toList a 0 with
  | some (i, _) => (es.modify i fun e => { e with key := .int .i64 a, val := v }, c)
  | none => (es.push { key := .int .i64 a, val := v, born := c }, c + 1)
theorem mfind_lt (a : Int) : ∀ (es : List MapEntry) (i j : Nat) (v : Value), mfind es a i = some (j, v) → i ≤ j ∧ ∃ e, es[j - i]? = some e ∧ e.key = .int .i64 a ∧ e.val = v
  | [], _, _, _, h => by cases h
  | e :: es, i, j, v, h => by
    unfold mfind at h
    split at h
    · rename_i b hb
      by_cases hab : a = b
      · rw [if_pos hab] at h
        injection h with h; injection h with h1 h2
        subst h1 h2
        exact ⟨Nat.le_refl _, e, by simp, by rw [hb, hab], rfl⟩
      · rw [if_neg hab] at h
        obtain ⟨h1, e', h2, h3⟩ := mfind_lt a es (i + 1) j v h
        exact ⟨by omega, e', by rw [show j - i = (j - (i + 1)) + 1 by omega]; simpa using h2, h3⟩
    · obtain ⟨h1, e', h2, h3⟩ := mfind_lt a es (i + 1) j v h
      exact ⟨by omega, e', by rw [show j - i = (j - (i + 1)) + 1 by omega]; simpa using h2, h3⟩
theorem IntKeys.put {es : Array MapEntry} {c : Nat} {a : Int} {v : Value} (h : IntKeys es.toList) : IntKeys (mput es c a v).1.toList := by
  unfold mput
  split
  · intro e he
    rw [Array.toList_modify] at he
    obtain ⟨k, hk, rfl⟩ := List.getElem_of_mem he
    rw [List.getElem_modify]
    split
    · exact ⟨a, rfl⟩
    · exact h _ (List.getElem_mem _)
  · intro e he
    rw [Array.toList_push, List.mem_append, List.mem_singleton] at he
    rcases he with he | rfl
    · exact h e he
    · exact ⟨a, rfl⟩
section
variable {P : Program} {w : World} {ops : Array Oper} {rest : List Oper} {o : Oper} {a : Act} {Q : Exit → Act → World → Prop}
theorem run_lookup_int (t kt et : TypeId) (ht : P.underlying t = some (.map kt et)) (hk : P.underlying kt = some (.int .i64)) (g : Nat) (es : Array MapEntry) (c : Nat) (hg : MapB w g es c) (hes : IntKeys es.toList) (x : Int) (z : Value)
    (hz : (zeroValue et).run P w = .ok z w) : (lookup t (.map (some g)) (.int .i64 x) true).run P w = .ok (.tuple #[(mget es x).getD z, .bool (mget es x).isSome]) w := by
  have h1 := run_checkKey (P := P) (w := w) (k := .int .i64 x) hk rfl es.isEmpty 9999
  have h2 := run_findKey (w := w) hk (findNow_int x es.toList 0 hes)
  have h0 : (getObj g).run P w = .ok (.map es c) w := MapKept.run_getObj_map hg
  unfold lookup mget
  cases hm : mfind es.toList x 0 with
  | none => rw [hm] at h2; simp [run_underlying ht, h0, h1, h2, hz, Result.andThen]
  | some p => rw [hm] at h2; simp [run_underlying ht, h0, h1, h2, Result.andThen]
theorem wpList_lookup_int (hgd : o.guard = none) (t kt et : TypeId) (m k : Operand) (ho : o.op = .lookup t m k true) (ht : P.underlying t = some (.map kt et)) (hk : P.underlying kt = some (.int .i64)) (g : Nat) (es : Array MapEntry) (c : Nat)
    (hg : MapB w g es c) (hes : IntKeys es.toList) (x : Int) (z : Value) (hz : (zeroValue et).run P w = .ok z w) (hm : a.eval m = .map (some g)) (hx : a.eval k = .int .i64 x)
    (h : wpList P ops Q rest (a.put o.dst (.tuple #[(mget es x).getD z, .bool (mget es x).isSome])) w) : wpList P ops Q (o :: rest) a w :=
  wpList_run _ hgd (by unfold execOp; simp only [ho, hm, hx, run_lookup_int t kt et ht hk g es c hg hes x z hz, Sem.run_bind, Result.andThen_ok, Sem.run_pure]) h
theorem sameBits_int (x : Int) : sameBits 10000 (.int .i64 x) (.int .i64 x) = true := by simp [sameBits]
theorem run_mapUpdate_int (t kt et : TypeId) (ht : P.underlying t = some (.map kt et)) (hk : P.underlying kt = some (.int .i64)) (g : Nat) (es : Array MapEntry) (c : Nat) (hg : MapB w g es c) (hes : IntKeys es.toList) (x : Int) (v : Value) :
    ∃ w', (mapUpdate t (.map (some g)) (.int .i64 x) v).run P w = .ok () w' ∧ MapB w' g (mput es c x v).1 (mput es c x v).2 ∧ Upd g w w' := by
  have h1 := run_checkKey (P := P) (w := w) (k := .int .i64 x) hk rfl false 9999
  have h2 := run_findKey (w := w) hk (findNow_int x es.toList 0 hes)
  have hu : ∀ ob, MapB w g es c → Upd g w { w with heap := w.heap.setIfInBounds g ob } := fun ob _ => ⟨rfl, rfl, rfl, by simp, fun k hk => by simp [Ne.symm hk]⟩
  have h0 : (getObj g).run P w = .ok (.map es c) w := MapKept.run_getObj_map hg
  have hs : ∀ ob, (setObj g ob).run P w = .ok () { w with heap := w.heap.setIfInBounds g ob } := fun ob => MapKept.run_setObj_map ob hg
  unfold mapUpdate mput
  cases hm : mfind es.toList x 0 with
  | none =>
    rw [hm] at h2
    simp only [Sem.run_bind, run_underlying ht, Result.andThen_ok, h0, h1, h2, hs]
    exact ⟨_, rfl, (heap_set hg).1, hu _ hg⟩
  | some p =>
    obtain ⟨i, v0⟩ := p
    obtain ⟨_, e, h3, h4, _⟩ := mfind_lt x es.toList 0 i v0 hm
    have h5 : ((es[i]?).map (·.key)).getD (.int .i64 x) = .int .i64 x := by
      rw [Nat.sub_zero, Array.getElem?_toList] at h3
      rw [h3]; exact h4
    rw [hm] at h2
    simp only [Sem.run_bind, run_underlying ht, Result.andThen_ok, h0, h1, h2, h5, keyThatStays, sameBits_int, if_true, Sem.run_pure, hs]
    exact ⟨_, rfl, (heap_set hg).1, hu _ hg⟩
theorem wpList_mapUpdate_int (hgd : o.guard = none) (t kt et : TypeId) (m k y : Operand) (ho : o.op = .mapUpdate t m k y) (ht : P.underlying t = some (.map kt et)) (hk : P.underlying kt = some (.int .i64)) (g : Nat) (es : Array MapEntry) (c : Nat)
    (hg : MapB w g es c) (hes : IntKeys es.toList) (x : Int) (v : Value) (hm : a.eval m = .map (some g)) (hx : a.eval k = .int .i64 x) (hy : a.eval y = v)
    (h : ∀ w', MapB w' g (mput es c x v).1 (mput es c x v).2 → Upd g w w' → wpList P ops Q rest (a.put o.dst undef) w') : wpList P ops Q (o :: rest) a w := by
  obtain ⟨w', h1, h2, h3⟩ := run_mapUpdate_int t kt et ht hk g es c hg hes x v
  refine wpList_plain hgd fun _ hK => ?_
  unfold Oper.wp execOp
  simp only [ho, hm, hx, hy, h1, Sem.run_bind, Sem.run_pure, Result.andThen_ok]
  exact hK _ _ (h w' h2 h3)
theorem wpList_clear_map (hgd : o.guard = none) (t : TypeId) (m : Operand) (d : TypeDesc) (ho : o.op = .call { callee := .builtin .clear, args := #[m], argTypes := #[t] }) (ht : P.underlying t = some d) (g : Nat) (es : Array MapEntry) (c : Nat)
    (hg : MapB w g es c) (hm : a.eval m = .map (some g)) (h : ∀ w', MapB w' g #[] c → Upd g w w' → wpList P ops Q rest (a.put o.dst (.tuple #[])) w') : wpList P ops Q (o :: rest) a w := by
  refine wpList_plain hgd fun _ hK => ?_
  have hr : (Builtin.clear_ #[t] o.type #[.map (some g)]).run P w = .ok (.tuple #[]) { w with heap := w.heap.setIfInBounds g (.map #[] c) } := by
    unfold Builtin.clear_
    have h0 : (getObj g).run P w = .ok (.map es c) w := MapKept.run_getObj_map hg
    have hs : ∀ ob, (setObj g ob).run P w = .ok () { w with heap := w.heap.setIfInBounds g ob } := fun ob => MapKept.run_setObj_map ob hg
    simp [run_underlying ht, h0, hs, Result.andThen]
  unfold Oper.wp
  simp [execOp, ho, resolve, invoke, builtin, hm, hr, Result.andThen]
  exact hK _ _ (h _ (heap_set hg).1 ⟨rfl, rfl, rfl, by simp, fun k hk => by simp [Ne.symm hk]⟩)
end
end Go

/- A store of a whole struct or array into the middle of an own block. Plain facts over any program. Condition: the block is long enough. -/
namespace Go
open Go.RowKit
def setAll (cs : Array Value) : Nat → List Value → Array Value
  | _, [] => cs
  | o, v :: r => setAll (cs.setIfInBounds o v) (o + 1) r
theorem Blk.setCells {g : Nat} {t : TypeId} : ∀ (vs : List Value) (o : Nat) (w : World) (cs : Array Value), Blk w g t cs → Blk (w.setCells g o vs) g t (setAll cs o vs)
  | [], _, _, _, h => h
  | v :: r, o, _, _, h => Blk.setCells r (o + 1) _ _ (h.set_ o v)
theorem Upd.setCells {g : Nat} {w0 : World} : ∀ (vs : List Value) (o : Nat) (w : World), Upd g w0 w → Upd g w0 (w.setCells g o vs)
  | [], _, _, h => h
  | v :: r, o, _, h => Upd.setCells r (o + 1) _ (h.set o v)
theorem wpList_store_in {P : Program} {w : World} {Q : Exit → Act → World → Prop} {ops : Array Oper} {rest : List Oper} {o : Oper} {a : Act} {g : Nat} {t : TypeId} {cs : Array Value} (hb : Blk w g t cs) (hgd : o.guard = none) (ty : TypeId) (x y : Operand) (ho : o.op = .store ty x y)
    (k : Nat) (hx : a.eval x = .pointer (some ⟨g, k, none⟩)) (vs : Array Value) (hy : a.eval y = .agg vs) {n : Nat} (hi : (P.info? ty).map (·.size) = some n) (hs : vs.size = n) (hk : k + n ≤ cs.size) (h1 : vs.all (·.oneCell') = true)
    (h : ∀ w', Blk w' g t (setAll cs k vs.toList) → Upd g w w' → wpList P ops Q rest (a.put o.dst undef) w') : wpList P ops Q (o :: rest) a w :=
  wpList_store_mid hgd ty x y ho g k vs hx hy (fun j hj => ⟨by rw [hb.cell, Array.getElem?_eq_getElem (by omega)]; rfl, hb.frozen _⟩) (by rw [hs]; exact hi) h1
    (h _ (Blk.setCells vs.toList k w cs hb) (Upd.setCells vs.toList k w (Upd.refl g w)))
end Go

/- A disk's bytes as one list, sector behind sector; bytes written over a part of them. Plain facts. No condition. -/
namespace Go
/-- The bytes b, written from the place p on. -/
def wr (L : List UInt8) (p : Nat) (b : List UInt8) : List UInt8 := L.take p ++ (b ++ L.drop (p + b.length))
theorem wr_length {L b : List UInt8} {p : Nat} (h : p + b.length ≤ L.length) : (wr L p b).length = L.length := by
  unfold wr; rw [List.length_append, List.length_append, List.length_take, List.length_drop]; omega
theorem wr_nil (L : List UInt8) (p : Nat) : wr L p [] = L := by unfold wr; rw [List.nil_append, List.length_nil, Nat.add_zero, List.take_append_drop]
theorem wr_take {L b : List UInt8} {p : Nat} (h : p ≤ L.length) : (wr L p b).take p = L.take p := by
  have hl : (L.take p).length = p := by rw [List.length_take]; omega
  unfold wr
  rw [List.take_append_of_le_length (by omega), List.take_take, Nat.min_self]
theorem wr_drop {L b : List UInt8} {p : Nat} (h : p ≤ L.length) (k : Nat) : (wr L p b).drop (p + b.length + k) = L.drop (p + b.length + k) := by
  have hl : (L.take p ++ b).length = p + b.length := by rw [List.length_append, List.length_take]; omega
  unfold wr
  rw [← List.append_assoc, ← List.drop_drop, List.drop_left' hl, List.drop_drop]
theorem wr_mid {L b : List UInt8} {p : Nat} (h : p ≤ L.length) : ((wr L p b).drop p).take b.length = b := by
  have hl : (L.take p).length = p := by rw [List.length_take]; omega
  unfold wr
  rw [show (L.take p ++ (b ++ L.drop (p + b.length))).drop p = b ++ L.drop (p + b.length) by
    have e := List.drop_left (l₁ := L.take p) (l₂ := b ++ L.drop (p + b.length)); rw [hl] at e; exact e, List.take_left]
theorem wr_wr {L a b : List UInt8} {p : Nat} (h : p + a.length + b.length ≤ L.length) : wr (wr L p a) (p + a.length) b = wr L p (a ++ b) := by
  have hp : p ≤ L.length := by omega
  have hl : (L.take p).length = p := by rw [List.length_take]; omega
  have h1 : (wr L p a).take (p + a.length) = L.take p ++ a := by
    unfold wr
    rw [← List.append_assoc, List.take_append_of_le_length (by rw [List.length_append]; omega), List.take_of_length_le (by rw [List.length_append]; omega)]
  have h2 : (wr L p a).drop (p + a.length + b.length) = L.drop (p + a.length + b.length) := wr_drop hp b.length
  show (wr L p a).take (p + a.length) ++ (b ++ (wr L p a).drop (p + a.length + b.length)) = L.take p ++ ((a ++ b) ++ L.drop (p + (a ++ b).length))
  rw [h1, h2, List.length_append, List.append_assoc, List.append_assoc, Nat.add_assoc]
theorem wr_set {L : List UInt8} {p : Nat} {x : UInt8} {r : List UInt8} (h : p < L.length) : wr (L.set p x) (p + 1) r = wr L p (x :: r) := by
  have hl : (L.take p ++ [x]).length = p + 1 := by rw [List.length_append, List.length_take]; simp; omega
  have e : L.set p x = (L.take p ++ [x]) ++ L.drop (p + 1) := by rw [List.set_eq_take_append_cons_drop, if_pos h]; simp
  unfold wr
  rw [e, List.take_left' hl, ← List.drop_drop, List.drop_left' hl, List.drop_drop, List.length_cons, List.append_assoc, show p + 1 + r.length = p + (r.length + 1) by omega]
  rfl
theorem setAll_wr : ∀ (b L : List UInt8) (p : Nat), p + b.length ≤ L.length → setAll (L.map u8v).toArray p (b.map u8v) = ((wr L p b).map u8v).toArray
  | [], L, p, _ => by rw [wr_nil]; rfl
  | x :: r, L, p, h => by
    rw [List.length_cons] at h
    rw [List.map_cons]
    show setAll ((L.map u8v).toArray.setIfInBounds p (u8v x)) (p + 1) (r.map u8v) = _
    have e : (L.map u8v).toArray.setIfInBounds p (u8v x) = ((L.set p x).map u8v).toArray := by simp [List.map_set]
    rw [e, setAll_wr r (L.set p x) (p + 1) (by rw [List.length_set]; omega), wr_set (by omega)]
end Go

/- Bytes in memory: two plain facts. No condition. -/
namespace Go.Proofs.Ytlfgjiahnfakdaa
open Go.RowKit
theorem u8info : (Try.prog.info? 5).map (fun i => (i.zero, i.size, i.bytes)) = some (some (.int .u8 0), 1, 1) := by kernel_rfl
theorem u8_all (l : List UInt8) : (l.map u8v).toArray.all (·.oneCell') = true := by
  rw [List.all_toArray]
  simp [u8v, Value.oneCell']
end Go.Proofs.Ytlfgjiahnfakdaa

/- A region that draws its order: a head whose operations, calls among them, yield one value in every world of a class and stay in the class, and behind it a few operations in one forced order. Plain facts over any program. No condition. -/
namespace Go
section
variable {P : Program} {ops : Array Oper} {md : Region.Mode} {C : World → Prop} {n : Nat}

/-! The head 'hs' and the tail 'ts' are told by lists of places; others have come up before. -/
def Region.linkB (md : Region.Mode) (ops : Array Oper) : List Nat → Bool
  | t :: t' :: r => Region.waitsFor md ops t' t && Region.linkB md ops (t' :: r)
  | _ => true
/-- Each place of the head is waited for by a later one of the head, or by the tail's first. -/
def Region.sinkL (md : Region.Mode) (ops : Array Oper) (hs : List Nat) (t : Nat) : Bool := hs.all fun i => (t :: hs).any fun j => decide (i < j) && Region.waitsFor md ops j i
/-- What has come up is closed under what it waits for; the tail has not come up. -/
structure ListInv (md : Region.Mode) (ops : Array Oper) (hs ts : List Nat) (s : Array Bool) : Prop where
  size : s.size = ops.size
  closed : ∀ j oj, ops[j]? = some oj → s.getD j false = true → ∀ e ∈ oj.after, Region.binds md e = true → s.getD e.on false = true
  tail : ∀ t ∈ ts, s.getD t true = false
  cover : ∀ j, j < ops.size → s.getD j true = false → j ∈ hs ∨ j ∈ ts
theorem ListInv.set {hs ts : List Nat} {s : Array Bool} {i : Nat} (inv : ListInv md ops hs ts s) (hi : i ∈ Region.ready md ops s) (hn : i ∉ ts) : ListInv md ops hs ts (s.setIfInBounds i true) := by
  obtain ⟨_, oi, hoi, hall⟩ := mem_ready.1 hi
  refine ⟨by simp [inv.size], fun j oj hj hl e he hb => ?_, fun t ht => ?_, fun j hj hu => ?_⟩
  · by_cases hij : i = j
    · have e2 : oj = oi := Option.some.inj (hj.symm.trans (hij ▸ hoi))
      rw [e2] at he
      exact getD_set_true (hall e he hb)
    · rw [getD_set_ne false hij] at hl
      exact getD_set_true (inv.closed j oj hj hl e he hb)
  · have hne : i ≠ t := fun e => hn (e ▸ ht)
    rw [getD_set_ne true hne]; exact inv.tail t ht
  · by_cases hij : i = j
    · rw [← hij] at hj hu
      have : i < s.size := by rw [inv.size]; exact hj
      simp [this] at hu
    · rw [getD_set_ne true hij] at hu; exact inv.cover j hj hu
/-- As long as one of the head has not come up none of the tail is ready. -/
theorem tail_late {hs : List Nat} {t0 : Nat} {ts : List Nat} {s : Array Bool} (hsk : Region.sinkL md ops hs t0 = true) (hlk : Region.linkB md ops (t0 :: ts) = true)
    (hlt : ∀ i ∈ hs, i < ops.size) (inv : ListInv md ops hs (t0 :: ts) s) :
    ∀ (d i : Nat), ops.size - i = d → i ∈ hs → s.getD i true = false → ∀ t ∈ t0 :: ts, t ∉ Region.ready md ops s := by
  intro d
  induction d using Nat.strongRecOn with
  | _ d ih =>
    intro i hd hi hun t ht hr
    by_cases e0 : t = t0
    · have h1 := List.all_eq_true.1 hsk i hi
      obtain ⟨j, hj, hj2⟩ := List.any_eq_true.1 h1
      simp only [Bool.and_eq_true, decide_eq_true_eq] at hj2
      obtain ⟨oj, hoj, e, he, hb, hon⟩ := Region.waitsFor_spec hj2.2
      have hjlt : j < ops.size := (Array.getElem?_eq_some_iff.1 hoj).1
      by_cases ejt : j = t0
      · obtain ⟨_, o2, ho2, hall⟩ := mem_ready.1 hr
        rw [e0, ← ejt] at ho2
        have : o2 = oj := Option.some.inj (ho2.symm.trans hoj)
        rw [this] at hall
        have h2 := hall e he hb
        rw [hon, getD_both hun] at h2
        cases h2
      · have hjh : j ∈ hs := by
          rcases List.mem_cons.1 hj with h | h
          · exact absurd h ejt
          · exact h
        cases hl : s.getD j false with
        | true =>
          have h2 := inv.closed j oj hoj hl e he hb
          rw [hon, getD_both hun] at h2
          cases h2
        | false =>
          have hjs : j < s.size := by rw [inv.size]; exact hjlt
          exact ih (ops.size - j) (by have := hlt i hi; omega) j rfl hjh (getD_in hjs hl) t ht hr
    · have hts : t ∈ ts := by
        rcases List.mem_cons.1 ht with h | h
        · exact absurd h e0
        · exact h
      have key : ∀ (l : List Nat) (p : Nat), Region.linkB md ops (p :: l) = true → t ∈ l → ∃ q, (q = p ∨ q ∈ l) ∧ Region.waitsFor md ops t q = true := by
        intro l
        induction l with
        | nil => intro p _ h; cases h
        | cons x l ih2 =>
          intro p hp h
          simp only [Region.linkB, Bool.and_eq_true] at hp
          rcases List.mem_cons.1 h with h | h
          · exact ⟨p, .inl rfl, by rw [h]; exact hp.1⟩
          · obtain ⟨q, hq, hw⟩ := ih2 x hp.2 h
            refine ⟨q, .inr ?_, hw⟩
            rcases hq with rfl | hq
            · simp
            · simp [hq]
      obtain ⟨q, hq, hw⟩ := key ts t0 hlk hts
      obtain ⟨ot, hot, e, he, hb, hon⟩ := Region.waitsFor_spec hw
      obtain ⟨_, o2, ho2, hall⟩ := mem_ready.1 hr
      have : o2 = ot := Option.some.inj (ho2.symm.trans hot)
      rw [this] at hall
      have h2 := hall e he hb
      have hqu : s.getD q true = false := inv.tail q (by rcases hq with rfl | hq <;> simp [*])
      rw [hon, getD_both hqu] at h2
      cases h2


/-- f operations of the head come up next, in whatever order; behind them L. -/
def HeadC (P : Program) (md : Region.Mode) (ops : Array Oper) (C : World → Prop) (L : Array Bool → Act → Prop) : Nat → Array Bool → Act → Prop
  | 0, s, a => L s a
  | f + 1, s, a => Region.ready md ops s ≠ [] ∧ ∀ i ∈ Region.ready md ops s, qOp P ops C i (HeadC P md ops C L f (s.setIfInBounds i true)) a

theorem any_of_headC {g : Nat} {L : Array Bool → Act → Prop} {Q : Exit → Act → World → Prop} (hL : ∀ s a w, C w → L s a → wpAny P md ops Q g s a w) (f : Nat) :
    ∀ (s : Array Bool) (a : Act) (w : World), C w → HeadC P md ops C L f s a → wpAny P md ops Q (f + g) s a w := by
  induction f with
  | zero => intro s a w hw h; rw [Nat.zero_add]; exact hL s a w hw h
  | succ f ih =>
    intro s a w hw h
    have e : f + 1 + g = (f + g) + 1 := by omega
    rw [e]
    exact ⟨fun h0 => absurd h0 h.1, fun i hi => wpOp_of_qOp hw (fun a' w' hw' h' => ih _ a' w' hw' h') (h.2 i hi)⟩

/-- An operation that is ready and yields its value in the whole class may be taken first. -/
theorem headC_first {hs ts : List Nat} {t0 i : Nat} {oi : Oper} {v : Value} {L : Array Bool → Act → Prop} (hi : ops[i]? = some oi) (hns : Region.noSelect ops = true)
    (hsk : Region.sinkL md ops hs t0 = true) (hlk : Region.linkB md ops (t0 :: ts) = true) (hlt : ∀ i ∈ hs, i < ops.size) (hdis : ∀ i ∈ hs, i ∉ t0 :: ts) (hin : i ∈ hs)
    (hL : ∀ s a, L s a → ∀ j ∈ Region.ready md ops s, j ∈ t0 :: ts) (f : Nat) :
    ∀ (s : Array Bool) (a : Act), ListInv md ops hs (t0 :: ts) s →
      (∀ j oj, ops[j]? = some oj → j ≠ i → s.getD j true = false → (∀ e ∈ oj.after, Region.binds md e = true → e.on ≠ i) → oi.apart ops oj = true) →
      i ∈ Region.ready md ops s → YieldsIn P ops C oi v a →
      HeadC P md ops C L f (s.setIfInBounds i true) (a.put oi.dst v) → HeadC P md ops C L (f + 1) s a := by
  have sel := fun (j : Nat) (o : Oper) cs b => Region.noSelect_spec hns j o cs b
  induction f with
  | zero =>
    intro s a inv _ hr hy H
    refine ⟨fun h => (by rw [h] at hr; cases hr), fun j hj => ?_⟩
    by_cases e : j = i
    · rw [e]; exact hy.qOp hi H
    · exact absurd hj (tail_late hsk hlk hlt inv _ i rfl hin (mem_ready.1 hr).1 j (hL _ _ H j (ready_mono hj e)))
  | succ f ih =>
    intro s a inv hfree hr hy H
    have hun := (mem_ready.1 hr).1
    refine ⟨fun h => (by rw [h] at hr; cases hr), fun j hj => ?_⟩
    by_cases e : j = i
    · rw [e]; exact hy.qOp hi H
    · obtain ⟨hju, oj, hoj, hall⟩ := mem_ready.1 hj
      have hjh : j ∈ hs := by
        rcases inv.cover j (Array.getElem?_eq_some_iff.1 hoj).1 hju with h | h
        · exact h
        · exact absurd hj (tail_late hsk hlk hlt inv _ i rfl hin hun j h)
      have hno : ∀ x ∈ oj.after, Region.binds md x = true → x.on ≠ i := by
        intro x hx hb hxi
        have h1 := hall x hx hb
        rw [hxi, getD_both hun] at h1
        cases h1
      have h2 := qOp_put hoj (hfree j oj hoj e hju hno) (fun cs b => sel i oi cs b hi) (fun cs b => sel j oj cs b hoj) hy (H.2 j (ready_mono hj e))
      have hfree2 : ∀ k ok, ops[k]? = some ok → k ≠ i → (s.setIfInBounds j true).getD k true = false →
          (∀ x ∈ ok.after, Region.binds md x = true → x.on ≠ i) → oi.apart ops ok = true := by
        intro k ok hk hki hkun hkno
        refine hfree k ok hk hki ?_ hkno
        by_cases ejk : j = k
        · rw [← ejk]; exact hju
        · rw [getD_set_ne true ejk] at hkun; exact hkun
      refine qOp_mono (fun a' h3 => ih _ a' (inv.set hj (hdis j hjh)) hfree2 (ready_mono hr (Ne.symm e)) h3.1 ?_) h2
      rw [Array.setIfInBounds_comm _ _ e]
      exact h3.2

/-- The places in this order may be taken one by one; 'last' holds of what has come up then. -/
def Region.orderB (md : Region.Mode) (ops : Array Oper) (last : Array Bool → Bool) : List Nat → Array Bool → Bool
  | [], s => last s
  | i :: r, s => (Region.ready md ops s).contains i && Region.free md ops s i && Region.orderB md ops last r (s.setIfInBounds i true)
/-- The head, one by one. -/
theorem headC_order {hs ts : List Nat} {t0 : Nat} {L : Act → Prop} {last : Array Bool → Bool} (hns : Region.noSelect ops = true)
    (hsk : Region.sinkL md ops hs t0 = true) (hlk : Region.linkB md ops (t0 :: ts) = true) (hlt : ∀ i ∈ hs, i < ops.size) (hdis : ∀ i ∈ hs, i ∉ t0 :: ts)
    (hlast : ∀ s, last s = true → ∀ j ∈ Region.ready md ops s, j ∈ t0 :: ts) (r : List Nat) :
    ∀ (l : List Oper) (s : Array Bool) (a : Act), r.map (fun i => ops[i]?) = l.map some → (∀ i ∈ r, i ∈ hs) → ListInv md ops hs (t0 :: ts) s →
    Region.orderB md ops last r s = true → wpQuiet P ops C L l a →
    HeadC P md ops C (fun s' a' => last s' = true ∧ L a') r.length s a := by
  induction r with
  | nil =>
    intro l s a hl _ _ hB h
    cases l with
    | nil => exact ⟨hB, h⟩
    | cons _ _ => simp at hl
  | cons i r ih =>
    intro l s a hl hin inv hB h
    cases l with
    | nil => simp at hl
    | cons o l =>
      simp only [List.map_cons, List.cons.injEq] at hl
      simp only [Region.orderB, Bool.and_eq_true] at hB
      have hr : i ∈ Region.ready md ops s := by simpa using hB.1.1
      have hq : qOp P ops C i (wpQuiet P ops C L l) a := by unfold qOp; simp only [hl.1]; exact h
      obtain ⟨v, hy, hK⟩ := yieldsIn_of_qOp hl.1 hq
      have hih := hin i (by simp)
      refine headC_first hl.1 hns hsk hlk hlt hdis hih (fun s' a' h' => hlast s' h'.1) r.length s a inv (Region.free_spec hl.1 hB.1.2) hr hy ?_
      exact ih l _ _ hl.2 (fun x hx => hin x (by simp [hx])) (inv.set hr (hdis i hih)) hB.2 hK

/-- Operations that yield their value in whatever world, taken first one by one; behind them Q. -/
def PureWalk (P : Program) (ops : Array Oper) (Q : Act → Prop) : List Oper → Act → Prop
  | [], a => Q a
  | o :: r, a => ∃ v, Yields P ops o v a ∧ PureWalk P ops Q r (a.put o.dst v)
theorem PureWalk.nil {Q : Act → Prop} {a : Act} (h : Q a) : PureWalk P ops Q [] a := h
theorem any_of_pure {Q : Exit → Act → World → Prop} {g : Nat} {last : Array Bool → Bool} (hns : Region.noSelect ops = true)
    (hQ : ∀ c a a' w, a'.defers = a.defers → Q (.panic c) a' w → Q (.panic c) a w) {R : Act → Prop} {w : World} (inv0 : List Nat → Array Bool → Prop) (hstep : ∀ s i r, inv0 (i :: r) s → i ∈ Region.ready md ops s → inv0 r (s.setIfInBounds i true))
    (hR : ∀ s a, inv0 [] s → last s = true → R a → wpAny P md ops Q g s a w) (r : List Nat) :
    ∀ (l : List Oper) (s : Array Bool) (a : Act), r.map (fun i => ops[i]?) = l.map some → inv0 r s → Region.orderB md ops last r s = true → PureWalk P ops R l a → wpAny P md ops Q (r.length + g) s a w := by
  induction r with
  | nil =>
    intro l s a hl hi hB h
    cases l with
    | nil => rw [List.length_nil, Nat.zero_add]; exact hR s a hi hB h
    | cons _ _ => simp at hl
  | cons i r ih =>
    intro l s a hl hinv hB h
    cases l with
    | nil => simp at hl
    | cons o l =>
      simp only [List.map_cons, List.cons.injEq] at hl
      simp only [Region.orderB, Bool.and_eq_true] at hB
      obtain ⟨v, hv, hn⟩ := h
      have hr : i ∈ Region.ready md ops s := by simpa using hB.1.1
      have e : (i :: r).length + g = (r.length + g) + 1 := by simp only [List.length_cons]; omega
      rw [e]
      refine wpAny_take hl.1 hns hB.1.2 hB.1.1 (fun c a w q => hQ c a _ w (by cases o.dst <;> rfl) q) hv ?_
      exact ih l _ _ hl.2 (hstep s i r hinv hr) hB.2 hn

/-- A tail that comes up one by one. -/
def Region.seqL (md : Region.Mode) (ops : Array Oper) : List Nat → Array Bool → Bool
  | [], s => (Region.ready md ops s).isEmpty
  | i :: r, s => decide (Region.ready md ops s = [i]) && Region.seqL md ops r (s.setIfInBounds i true)
theorem any_of_seqL {Q : Exit → Act → World → Prop} (r : List Nat) :
    ∀ (l : List Oper) (s : Array Bool) (a : Act) (w : World), r.map (fun i => ops[i]?) = l.map some → Region.seqL md ops r s = true → wpList P ops Q l a w → wpAny P md ops Q r.length s a w := by
  induction r with
  | nil =>
    intro l s a w hl hB h
    cases l with
    | nil => exact ⟨by simpa [Region.seqL] using hB, h⟩
    | cons _ _ => simp at hl
  | cons i r ih =>
    intro l s a w hl hB h
    cases l with
    | nil => simp at hl
    | cons o l =>
      simp only [List.map_cons, List.cons.injEq] at hl
      simp only [Region.seqL, Bool.and_eq_true, decide_eq_true_eq] at hB
      refine ⟨fun h1 => (by rw [hB.1] at h1; cases h1), fun j hj => ?_⟩
      rw [hB.1] at hj
      have hji : j = i := by simpa using hj
      rw [hji]
      have hw : wpOp P ops Q i (wpList P ops Q l) a w := by unfold wpOp; simp only [hl.1]; exact h
      exact wpOp_mono (fun a' w' h' => ih l _ a' w' hl.2 hB.2 h') hw
theorem seqL_ready {t0 : Nat} {ts : List Nat} {s : Array Bool} (h : Region.seqL md ops (t0 :: ts) s = true) : ∀ j ∈ Region.ready md ops s, j ∈ t0 :: ts := by
  intro j hj
  simp only [Region.seqL, Bool.and_eq_true, decide_eq_true_eq] at h
  rw [h.1] at hj
  simp at hj; simp [hj]

/-- Operations that can only yield a value. -/
def Op.valued : Op → Bool
  | .move _ | .assign _ | .binOp .. | .unOp .. | .convert .. | .fieldAddr .. | .field .. | .indexAddr .. | .index .. | .slice .. | .extract .. | .build .. | .sliceToArrayPointer .. => true
  | .call c => match c.callee with
    | .builtin .len | .builtin .cap => true
    | _ => false
  | _ => false
theorem valued_run {o : Oper} (h : o.op.valued = true) (ρ : Operand → Value) (w w' : World) (n : Next) (hr : (execOp ρ o).run P w = .ok n w') : ∃ v, n = .value v := by
  have key : ∀ (m : Sem Value), (do let x ← m; pure (Next.value x) : Sem Next).run P w = .ok n w' → ∃ v, n = .value v := by
    intro m hm
    rw [Sem.run_bind] at hm
    generalize m.run P w = r at hm
    cases r with
    | ok x w2 => simp only [Result.andThen_ok, Sem.run_pure, Result.ok.injEq] at hm; exact ⟨x, hm.1.symm⟩
    | halt x w2 => simp [Result.andThen] at hm
  obtain ⟨dst, op, type, pos, after, guard⟩ := o
  cases op
  case call c =>
    obtain ⟨callee, cargs, cats⟩ := c
    cases callee with
    | builtin b =>
      cases b <;> first
        | (simp [Op.valued] at h; done)
        | (simp only [execOp, resolve, Sem.run_bind, Sem.run_pure, Result.andThen_ok, invoke, builtin] at hr; exact key _ (by rw [Sem.run_bind]; exact hr))
    | _ => simp [Op.valued] at h
  all_goals first
    | exact key _ hr
    | (simp [Op.valued] at h; done)
    | (simp only [execOp, Sem.run_pure, Result.ok.injEq] at hr; exact ⟨_, hr.1.symm⟩)
theorem pureWalk_of_quiet {Q : Act → Prop} (l : List Oper) : ∀ a : Act, (l.all fun o => o.op.valued) = true → wpQuiet P ops (fun _ => True) Q l a → PureWalk P ops Q l a := by
  induction l with
  | nil => intro a _ h; exact h
  | cons o l ih =>
    intro a hv h
    simp only [List.all_cons, Bool.and_eq_true] at hv
    unfold wpQuiet at h
    cases hw : Region.wanted o (yielded ops a.tmps) with
    | false =>
      rw [if_neg (by rw [hw]; exact Bool.false_ne_true)] at h
      exact ⟨_, .inr ⟨hw, rfl⟩, ih _ (by simpa using hv.2) h⟩
    | true =>
      rw [if_pos hw] at h
      obtain ⟨v, h1, h2⟩ := h
      refine ⟨v, .inl ⟨hw, fun w => ?_⟩, ih _ (by simpa using hv.2) h2⟩
      have h3 := h1 w trivial
      unfold Oper.quietAt at h3
      cases hr : (execOp a.eval o).run P w with
      | ok n w' =>
        obtain ⟨u, rfl⟩ := valued_run hv.1 _ _ _ _ hr
        rw [hr] at h3
        simp only [Oper.quietUpon] at h3
        rw [h3.1, h3.2]
      | halt x w' => rw [hr] at h3; simp only [Oper.quietUpon] at h3

/-- All that the kernel is asked of a region: 'ps' first (they hang on no world), then the head 'hs', then the tail 't0 :: ts'. -/
def Region.mixB (md : Region.Mode) (ops : Array Oper) (ps hs : List Nat) (t0 : Nat) (ts : List Nat) : Bool :=
  (ps.filterMap fun i => ops[i]?).all (fun o => o.op.valued) && Region.noSelect ops && Region.sinkL md ops hs t0 && Region.linkB md ops (t0 :: ts) && hs.all (fun i => decide (i < ops.size) && !(t0 :: ts).contains i) && (t0 :: ts).all (fun i => !ps.contains i && decide (i < ops.size)) &&
  (List.range ops.size).all (fun j => ps.contains j || hs.contains j || (t0 :: ts).contains j) && decide (ps.length + (hs.length + (ts.length + 1)) = ops.size) &&
  Region.orderB md ops (Region.orderB md ops (Region.seqL md ops (t0 :: ts)) hs) ps (Array.replicate ops.size false)

/-- **THE REGION**: operations that hang on no world first, the head in a class of worlds, the tail one by one. -/
theorem wp_region_mix {id : Nat} {Q : Exit → Act → World → Prop} {a : Act} {w : World} {l : List Oper} (C : World → Prop) (ps hs : List Nat) (t0 : Nat) (ts : List Nat) (hm : P.follows .mixedOrders = true)
    (hB : Region.mixB .any l.toArray ps hs t0 ts = true) (hQ : ∀ c a a' w, a'.defers = a.defers → Q (.panic c) a' w → Q (.panic c) a w) (hC : C w.drew)
    (h : wpQuiet P l.toArray (fun _ => True) (wpQuiet P l.toArray C (fun a' => ∀ w', C w' → wpList P l.toArray Q ((t0 :: ts).filterMap fun i => l[i]?) a' w') (hs.filterMap fun i => l[i]?)) (ps.filterMap fun i => l[i]?) a) : (Code.region id l.toArray true).wp P Q a w := by
  simp only [Region.mixB, Bool.and_eq_true, decide_eq_true_eq] at hB
  obtain ⟨⟨⟨⟨⟨⟨⟨⟨hval, hns⟩, hsk⟩, hlk⟩, hhs⟩, hts⟩, hcv⟩, hlen⟩, hord⟩ := hB
  replace h := pureWalk_of_quiet _ _ (by simpa using hval) h
  have hh1 : ∀ i ∈ hs, i < l.toArray.size := fun i hi => by have := List.all_eq_true.1 hhs i hi; simp only [Bool.and_eq_true, decide_eq_true_eq] at this; exact this.1
  have hh2 : ∀ i ∈ hs, i ∉ t0 :: ts := fun i hi => by
    have := List.all_eq_true.1 hhs i hi
    simp only [Bool.and_eq_true, Bool.not_eq_true'] at this
    have h2 := this.2
    intro hmem
    rw [List.contains_iff_mem.2 hmem] at h2
    cases h2
  have ht1 : ∀ i ∈ t0 :: ts, i ∉ ps ∧ i < l.toArray.size := fun i hi => by
    have := List.all_eq_true.1 hts i hi
    simp only [Bool.and_eq_true, Bool.not_eq_true', decide_eq_true_eq] at this
    refine ⟨fun hmem => ?_, this.2⟩
    rw [List.contains_iff_mem.2 hmem] at this
    cases this.1
  have hsome : ∀ r : List Nat, (∀ i ∈ r, i < l.toArray.size) → r.map (fun i => l.toArray[i]?) = (r.filterMap fun i => l[i]?).map some := by
    intro r
    induction r with
    | nil => intro _; rfl
    | cons i r ih =>
      intro hr
      have hi : i < l.length := by simpa using hr i (by simp)
      rw [List.map_cons, ih (fun x hx => hr x (by simp [hx]))]
      have e : l[i]? = some l[i] := List.getElem?_eq_getElem hi
      simp [e]
  have hordlt : ∀ (last : Array Bool → Bool) (r : List Nat) (s : Array Bool), Region.orderB .any l.toArray last r s = true → ∀ i ∈ r, i < l.toArray.size := by
    intro last r
    induction r with
    | nil => intro _ _ i hi; cases hi
    | cons x r ih =>
      intro s hs i hi
      simp only [Region.orderB, Bool.and_eq_true] at hs
      rcases List.mem_cons.1 hi with rfl | hi
      · have hr : i ∈ Region.ready .any l.toArray s := by simpa using hs.1.1
        obtain ⟨_, o, ho, _⟩ := mem_ready.1 hr
        exact (Array.getElem?_eq_some_iff.1 ho).1
      · exact ih _ hs.2 i hi
  refine wp_region_any hm ?_
  let inv0 : List Nat → Array Bool → Prop := fun r s => s.size = l.toArray.size ∧ (∀ j oj, l.toArray[j]? = some oj → s.getD j false = true → ∀ e ∈ oj.after, Region.binds .any e = true → s.getD e.on false = true) ∧
    (∀ j, s.getD j true = false → j < l.toArray.size ∧ (j ∉ ps ∨ j ∈ r)) ∧ (∀ j, j < l.toArray.size → j ∉ ps → s.getD j true = false) ∧ (∀ i ∈ r, i ∈ ps)
  have hstep : ∀ s i r, inv0 (i :: r) s → i ∈ Region.ready .any l.toArray s → inv0 r (s.setIfInBounds i true) := by
    intro s i r inv hi
    obtain ⟨_, oi, hoi, hall⟩ := mem_ready.1 hi
    obtain ⟨i1, i2, i3, i4, i5⟩ := inv
    refine ⟨by simp [i1], fun j oj hj hl e he hb => ?_, fun j hj => ?_, fun j hj hp => ?_, fun x hx => i5 x (by simp [hx])⟩
    · by_cases hij : i = j
      · have e2 : oj = oi := Option.some.inj (hj.symm.trans (hij ▸ hoi))
        rw [e2] at he
        exact getD_set_true (hall e he hb)
      · rw [getD_set_ne false hij] at hl
        exact getD_set_true (i2 j oj hj hl e he hb)
    · have hne : i ≠ j := by
        intro e
        rw [← e] at hj
        have hl : i < s.size := by rw [i1]; exact (Array.getElem?_eq_some_iff.1 hoi).1
        simp [hl] at hj
      rw [getD_set_ne true hne] at hj
      have h1 := i3 j hj
      refine ⟨h1.1, h1.2.imp (fun q => q) fun hm => ?_⟩
      rcases List.mem_cons.1 hm with h | h
      · exact absurd h.symm hne
      · exact h
    · have hne : i ≠ j := fun e => hp (e ▸ i5 i (by simp))
      rw [getD_set_ne true hne]; exact i4 j hj hp
  have final : ∀ s a, inv0 [] s → Region.orderB .any l.toArray (Region.seqL .any l.toArray (t0 :: ts)) hs s = true →
      wpQuiet P l.toArray C (fun a' => ∀ w', C w' → wpList P l.toArray Q ((t0 :: ts).filterMap fun i => l[i]?) a' w') (hs.filterMap fun i => l[i]?) a → wpAny P .any l.toArray Q (hs.length + (ts.length + 1)) s a w.drew := by
    intro s a inv hB hq
    obtain ⟨i1, i2, i3, i4, _⟩ := inv
    have linv : ListInv .any l.toArray hs (t0 :: ts) s := by
      refine ⟨i1, i2, fun t ht => i4 t (ht1 t ht).2 (ht1 t ht).1, fun j hj hu => ?_⟩
      have h1 := List.all_eq_true.1 hcv j (List.mem_range.2 hj)
      simp only [Bool.or_eq_true, List.contains_iff_mem] at h1
      rcases h1 with (h1 | h1) | h1
      · rcases (i3 j hu).2 with h2 | h2
        · exact absurd h1 h2
        · cases h2
      · exact .inl h1
      · exact .inr h1
    have H := headC_order (md := .any) (last := Region.seqL .any l.toArray (t0 :: ts)) hns hsk hlk hh1 hh2 (fun s h => seqL_ready h) hs _ s a (hsome hs hh1) (fun i hi => hi) linv hB hq
    exact any_of_headC (g := ts.length + 1) (fun s' a' w' hw' hL => any_of_seqL (t0 :: ts) _ s' a' w' (hsome _ fun i hi => (ht1 i hi).2) hL.1 (hL.2 w' hw')) _ s a w.drew hC H
  have R := any_of_pure (g := hs.length + (ts.length + 1)) (md := .any) (last := fun s => Region.orderB .any l.toArray (Region.seqL .any l.toArray (t0 :: ts)) hs s) hns hQ (R := _) (w := w.drew)
    inv0 hstep final ps _ _ a (hsome ps (hordlt _ ps _ hord)) ⟨by simp, fun j oj _ hl => (by rw [getD_replicate_false] at hl; cases hl), fun j hj => ⟨?_, ?_⟩, fun j hj _ => getD_in (by simpa using hj) (getD_replicate_false _ _), fun i hi => hi⟩ hord h
  · rw [hlen] at R; exact R
  · rcases Nat.lt_or_ge j l.toArray.size with h1 | h1
    · exact h1
    · have h2 : ¬ j < l.length := by simpa using h1
      simp [Array.getD, h2] at hj
  · by_cases hp : j ∈ ps
    · exact .inr hp
    · exact .inl hp

/-- One operation of such a head: a load of a whole array or struct. -/
theorem wpQuiet_load_blk {Q : Act → Prop} {rest : List Oper} {o : Oper} {a : Act} {g : Nat} {t : TypeId} {cs : Array Value} (hb : ∀ w, C w → Blk w g t cs) (hgd : o.guard = none) (ty : TypeId) (x : Operand) (ho : o.op = .load ty x)
    (hx : a.eval x = .pointer (some ⟨g, 0, none⟩)) (d : TypeDesc)
    (hu : P.underlying ty = some d) (hd : (match d with | .struct _ | .array _ _ => true | _ => false) = true) {n : Nat} (hi : (P.info? ty).map (·.size) = some n) (hn : cs.size = n)
    (h : wpQuiet P ops C Q rest (a.put o.dst (.agg cs))) : wpQuiet P ops C Q (o :: rest) a := by
  refine wpQuiet_step fun K hK => ?_
  rw [if_pos (by simp [Region.wanted, hgd])]
  refine ⟨_, fun w hw => ?_, hK _ h⟩
  unfold Oper.quietAt execOp
  simp only [ho, hx, Instr.loadAt, Instr.sureAddr, Sem.run_bind, Sem.run_pure, Result.andThen_ok, run_loadVar_row w g t ty cs (0, 0) d (hb w hw) hu hd (hn ▸ hi)]
  exact ⟨rfl, rfl⟩
/-- A call of a Go function whose contract holds in the whole class. -/
theorem wpQuiet_call {Q : Act → Prop} {rest : List Oper} {o : Oper} {a : Act} {f : FuncId} (hf : ∀ args w, (callFunc f args).run P w = .ok (.enter f args) w) (hgd : o.guard = none) (xs : List Operand) (ats : Array TypeId)
    (ho : o.op = .call { callee := .value (.func f), args := xs.toArray, argTypes := ats }) (vals : List Value) (hx : xs.map a.eval = vals) (v : Value)
    (hc : ∀ w, C w → Calls P f vals.toArray w fun e w' => e = .returned v ∧ C w') (h : wpQuiet P ops C Q rest (a.put o.dst v)) : wpQuiet P ops C Q (o :: rest) a := by
  refine wpQuiet_step fun K hK => ?_
  rw [if_pos (by simp [Region.wanted, hgd])]
  refine ⟨v, fun w hw => ?_, hK _ h⟩
  obtain ⟨dst, op, type, pos, after, guard⟩ := o
  simp only at ho
  subst ho
  unfold Oper.quietAt
  rw [execOp_call_go, hf]
  have e : #[] ++ xs.toArray.map a.eval ++ #[] = vals.toArray := by rw [← hx]; simp
  rw [e]
  exact ⟨rfl, hc w hw⟩
end
end Go

/- What the functions do that the statements share: bytes compared, copied, lent, kept. Plain facts. No condition. -/
namespace Go
open Go.RowKit
/-- The string that bytes are. -/
def str (l : List UInt8) : ByteArray := ⟨l.toArray⟩
theorem str_inj {l l' : List UInt8} (h : str l = str l') : l = l' := by
  unfold str at h
  injection h with h
  simpa using h
theorem str_eq (l l' : List UInt8) : (str l = str l') = (l = l') := propext ⟨str_inj, fun h => by rw [h]⟩
theorem str_beq (l l' : List UInt8) : ((str l).toList == (str l').toList) = decide (l = l') := by
  rw [ByteArray.toList_eq, ByteArray.toList_eq]
  by_cases h : l = l'
  · subst h; simp
  · rw [decide_eq_false h]; simpa [str] using h
theorem strOfNums_iu8 (l : List UInt8) : strOfNums (l.map iu8) = str l := by
  unfold strOfNums str
  rw [List.map_map]
  congr 2
  refine (List.map_congr_left fun b _ => ?_).trans (List.map_id l)
  simp [iu8]
theorem run_convert_str {P : Program} {w : World} {A : Option Addr} {l : List UInt8} (src dst e : TypeId) (hs : P.underlying src = some (.slice e)) (he : P.underlying e = some (.int .u8)) (hd : P.underlying dst = some .string)
    (n c : Nat) (hn : n = l.length) (h : Bytes w A l) : (convert src dst (.slice A n c)).run P w = .ok (.string (str l)) w := by
  subst hn
  cases hl : l with
  | nil =>
    cases A with
    | none => exact run_convert_bytes_nil w src e hs he _ _ dst hd
    | some a =>
      rw [run_convert_bytes_string w src dst e _ _ c hs he hd]
      have := run_bytesToString (P := P) w a 0 c [] (by rfl)
      exact this
  | cons x t =>
    have hp : 0 < l.length := by rw [hl]; simp
    obtain ⟨b, off, rfl, _, hc⟩ := h.at_ hp
    rw [← hl]
    have := run_convert_bytes_arg (P := P) w src e hs he b off l.length c (l.map iu8) (by simp) (fun i hi => by rw [hc i hi]; simp [hi]) dst hd
    rw [this, strOfNums_iu8]
theorem wpList_convert_str {P : Program} {w : World} {Q : Exit → Act → World → Prop} {ops : Array Oper} {rest : List Oper} {o : Oper} {a : Act} (hgd : o.guard = none) (src dst e : TypeId) (x : Operand) (ho : o.op = .convert src dst x)
    (hs : P.underlying src = some (.slice e)) (he : P.underlying e = some (.int .u8)) (hd : P.underlying dst = some .string)
    (A : Option Addr) (n c : Nat) (l : List UInt8) (hx : a.eval x = .slice A n c) (hn : n = l.length) (h : Bytes w A l) (hk : wpList P ops Q rest (a.put o.dst (.string (str l))) w) : wpList P ops Q (o :: rest) a w := by
  refine wpList_run (.string (str l)) hgd ?_ hk
  unfold execOp
  simp only [ho, hx, Sem.run_bind, run_convert_str src dst e hs he hd n c hn h, Result.andThen_ok, Sem.run_pure]
theorem wpList_make_bytes {P : Program} (w : World) {ops : Array Oper} {rest : List Oper} {o : Oper} {a : Act} {Q : Exit → Act → World → Prop}
    (hg : o.guard = none) (l c : Operand) (t : TypeId) (hop : o.op = Op.makeSlice t l c) (e : TypeId) (h1 : P.underlying t = some (.slice e)) (h2 : (P.info? e).map (fun i => (i.zero, i.size, i.bytes)) = some (some (.int .u8 0), 1, 1))
    (kl kc : IntKind) (L C : Int) (n m : Nat) (hl : a.eval l = .int kl L) (hc : a.eval c = .int kc C) (hL : L = (n : Int)) (hC : C = (m : Int)) (hnm : n ≤ m) (hm : m ≤ 140737488400000)
    (hK : ∀ w', Blk w' w.heap.size e ((List.replicate m 0).map u8v).toArray → Below w.heap.size w w' → w'.heap.size = w.heap.size + 1 → wpList P ops Q rest (a.put o.dst (.slice (some ⟨w.heap.size, 0, none⟩) n m)) w') :
    wpList P ops Q (o :: rest) a w := by
  obtain ⟨i, hi, hzz⟩ := Option.map_eq_some_iff.1 h2
  simp only [Prod.mk.injEq] at hzz
  obtain ⟨hz, hs, hb⟩ := hzz
  subst hL
  subst hC
  have hr := run_make (P := P) w t e i _ h1 hi hz kl kc n m (by omega) (by omega) (by rw [hb]; omega) (by omega)
  have e2 : madeCells (Value.int .u8 0).cells (m * i.size) = ((List.replicate m 0).map u8v).toArray := by
    rw [hs, Nat.mul_one]
    unfold madeCells
    apply Array.ext'
    simp [Value.cells, u8v, List.eq_replicate_iff]
    intro b x
    simp [Nat.mod_one, iu8]
  rw [Int.toNat_natCast, Int.toNat_natCast, e2] at hr
  refine wpList_plain hg fun K hK' => ?_
  unfold Oper.wp
  simp only [execOp, hop, hl, hc, hr, Sem.run_bind, Result.andThen_ok, Sem.run_pure]
  exact hK' _ _ (hK _ (Blk.new w e _) ((Below.refl _ _).alloc (Nat.le_refl _) _) (by simp))
theorem setRow_upd (w : World) (g : Nat) (cs : Array Value) : Upd g w (w.setRow g cs) := Upd.setRow w g cs
/-- copy(d, s), d in an own block of bytes from its head on. -/
theorem wpList_copy_bytes {P : Program} {w : World} {ops : Array Oper} {rest : List Oper} {o : Oper} {a : Act} {Q : Exit → Act → World → Prop} (hgd : o.guard = none) (d s : Operand) (dT sT : TypeId)
    (ho : o.op = .call { callee := .builtin .copy, args := #[d, s], argTypes := #[dT, sT] }) (elem : TypeId) (hu : P.underlying dT = some (.slice elem)) (hsz : (P.info? elem).map (·.size) = some 1)
    (g dLen dCap : Nat) (A : Option Addr) (sLen sCap : Nat) (hd : a.eval d = .slice (some ⟨g, 0, none⟩) dLen dCap) (hs : a.eval s = .slice A sLen sCap)
    (cur l : List UInt8) (t : TypeId) (hg : Blk w g t (cur.map u8v).toArray) (hn : l.length = sLen) (hb : Bytes w A l) (hfit : l.length ≤ cur.length) (hfit2 : l.length ≤ dLen)
    (h : ∀ w', Blk w' g t ((l ++ cur.drop l.length).map u8v).toArray → Upd g w w' → wpList P ops Q rest (a.put o.dst (goInt l.length)) w') : wpList P ops Q (o :: rest) a w := by
  by_cases h0 : l.length = 0
  · obtain rfl : l = [] := List.eq_nil_of_length_eq_zero h0
    simp at hn
    subst hn
    refine wpList_copy_nothing hgd d s dT sT ho elem hu hsz _ A dLen dCap 0 sCap hd hs (by simp) ?_
    exact h w (by simpa using hg) ⟨rfl, rfl, rfl, rfl, fun _ _ => rfl⟩
  · obtain ⟨b, off, rfl, _, hc⟩ := hb.at_ (by omega)
    have := wpList_copy_own (Q := Q) (rest := rest) (ops := ops) (w := w) hgd d s dT sT ho elem hu hsz g 0 dLen dCap ⟨b, off, none⟩ sLen sCap hd hs (cur.map u8v).toArray t hg (l.map u8v) (by rw [List.length_map, hn]; exact (Nat.min_eq_left (by omega)).symm)
      (fun j v hv => by
        have hj : j < l.length := by
          rcases Nat.lt_or_ge j l.length with h1 | h1
          · exact h1
          · simp [List.getElem?_eq_none h1] at hv
        have h2 := hc j hj
        simp [hj] at hv
        rw [Addr.add_lit, h2, ← hv]; simp [u8v, hj]) (by simpa using hfit) (u8v_one l)
    refine this ?_
    have e1 : ((((cur.map u8v).toArray.toList.take 0) ++ (l.map u8v ++ (cur.map u8v).toArray.toList.drop (0 + (l.map u8v).length))).toArray) = ((l ++ cur.drop l.length).map u8v).toArray := by simp
    rw [e1]
    have e2 : ((l.map u8v).length : Int) = (l.length : Int) := by simp
    rw [e2]
    exact h _ (hg.setRow _) (Upd.setRow _ _ _)
/-- A guarded operation that is wanted. -/
theorem wpList_want {P : Program} {w : World} {Q : Exit → Act → World → Prop} {ops : Array Oper} {rest : List Oper} {dst : Option Tmp} {op : Op} {ty : TypeId} {pos : String} {af : Array Edge} {g : Option (Nat × Bool)} {a : Act}
    (hw : Region.wanted ⟨dst, op, ty, pos, af, g⟩ (yielded ops a.tmps) = true) (h : wpList P ops Q (⟨dst, op, ty, pos, af, none⟩ :: rest) a w) : wpList P ops Q (⟨dst, op, ty, pos, af, g⟩ :: rest) a w := by
  unfold wpList at h ⊢
  rw [if_pos hw]
  rw [if_pos (by simp [Region.wanted])] at h
  exact h
/-- []byte("..") of a constant string. -/
theorem wpList_bytes_const {P : Program} {w : World} {Q : Exit → Act → World → Prop} {ops : Array Oper} {rest : List Oper} {o : Oper} {a : Act} (hgd : o.guard = none) (t e : TypeId) (x : Operand) (ho : o.op = .convert t t x)
    (ht : P.underlying t = some (.slice e)) (he : P.underlying e = some (.int .u8)) (l : List UInt8) (C : Array Value) (hC : C = (l.map u8v).toArray) (n : Nat) (hx : a.eval x = .slice (some ⟨w.heap.size, 0, none⟩) n n)
    (h : ∀ w', Bytes w' (some ⟨w.heap.size, 0, none⟩) l → Below w.heap.size w w' → w'.heap.size = w.heap.size + 1 → wpList P ops Q rest (a.put o.dst (.slice (some ⟨w.heap.size, 0, none⟩) n n)) w') : wpList P ops Q (o :: rest) a (w.alloc (.cells C e)) := by
  subst hC
  refine wpList_plain hgd fun K hK => ?_
  unfold Oper.wp execOp
  have hr := Lib.run_convert_bytes_const (P := P) w t e (l.map u8v).toArray n n ht he
  simp only [ho, hx, Sem.run_bind, hr, Result.andThen_ok, Sem.run_pure]
  refine hK _ _ (h _ (fun _ => ⟨w.heap.size, 0, rfl, fun j v hv => ?_⟩) ((Below.refl _ _).alloc (Nat.le_refl _) _) (by simp))
  have hh : (w.alloc (.cells (l.map u8v).toArray e ((l.map u8v).toArray.size, (l.map u8v).toArray.size + 1))).heap[w.heap.size]? = some (.cells (l.map u8v).toArray e ((l.map u8v).toArray.size, (l.map u8v).toArray.size + 1)) := heap_alloc_last w _
  rw [Nat.zero_add, cell_of_row _ _ _ _ _ _ hh]
  simpa using hv
/-- A block of bytes reads. -/
theorem Blk.bytes {w : World} {g : Nat} {t : TypeId} {l : List UInt8} (h : Blk w g t (l.map u8v).toArray) : Bytes w (some ⟨g, 0, none⟩) l := fun _ => ⟨g, 0, rfl, fun j u hu => by rw [h.cell]; simpa using hu⟩
theorem wpQuiet_convert_str {P : Program} {ops : Array Oper} {C : World → Prop} {Q : Act → Prop} {rest : List Oper} {o : Oper} {a : Act} (hgd : o.guard = none) (src dst e : TypeId) (x : Operand) (ho : o.op = .convert src dst x)
    (hs : P.underlying src = some (.slice e)) (he : P.underlying e = some (.int .u8)) (hd : P.underlying dst = some .string)
    (A : Option Addr) (n c : Nat) (l : List UInt8) (hx : a.eval x = .slice A n c) (hn : n = l.length) (hb : ∀ w, C w → Bytes w A l) (h : wpQuiet P ops C Q rest (a.put o.dst (.string (str l)))) : wpQuiet P ops C Q (o :: rest) a := by
  refine wpQuiet_step fun K hK => ?_
  rw [if_pos (by simp [Region.wanted, hgd])]
  refine ⟨_, fun w hw => ?_, hK _ h⟩
  unfold Oper.quietAt execOp
  simp only [ho, hx, Sem.run_bind, run_convert_str src dst e hs he hd n c hn (hb w hw), Result.andThen_ok, Sem.run_pure]
  exact ⟨rfl, rfl⟩
namespace Proofs.Ytlfgjiahnfakdaa
theorem sameBytes_any (A B : Option Addr) (n m c d : Nat) (l l' : List UInt8) (hn : n = l.length) (hm : m = l'.length) (w : World) (h : Bytes w A l) (h' : Bytes w B l') :
    Calls Try.prog 24 #[.slice A n c, .slice B m d] w fun e w' => e = .returned (.bool (decide (l = l'))) ∧ w' = w := by
  subst hn hm
  go_enter Try.func24, Try.ntmps24
  go_wp2_with (first
    | (show wpList _ _ _ ((⟨some 6, _, _, _, _, _⟩ : Oper) :: _) _ _; refine wpList_convert_str (o := ⟨some 6, _, _, _, _, _⟩) (by rfl) 43 9 5 _ (by rfl) Try.underlying43 Try.underlying5 Try.underlying9 A l.length c l (by rfl) rfl h ?_)
    | (show wpList _ _ _ ((⟨some 8, _, _, _, _, _⟩ : Oper) :: _) _ _; refine wpList_convert_str (o := ⟨some 8, _, _, _, _, _⟩) (by rfl) 43 9 5 _ (by rfl) Try.underlying43 Try.underlying5 Try.underlying9 B l'.length d l' (by rfl) rfl h' ?_))
  refine bodyPost_ret (results_tmp rfl _ _ _) rfl ⟨?_, rfl⟩
  simp [str_beq]
/-- What stands behind a list that is lent: three marks. -/
def mark1 (p : Nat) : UInt8 := UInt8.ofNat ((160 + p % 90) % 256)
def marks (n : Nat) : List UInt8 := [mark1 n, mark1 (n + 1), mark1 (n + 2)]
theorem lent_set (l : List UInt8) (n i : Nat) (h : i < 3) :
    ((l ++ ((marks n).take i ++ List.replicate (3 - i) 0)).map u8v).toArray.setIfInBounds (l.length + i) (.int .u8 (iu8 (mark1 (n + i)))) = ((l ++ ((marks n).take (i + 1) ++ List.replicate (3 - (i + 1)) 0)).map u8v).toArray := by
  apply Array.ext'
  simp only [List.setIfInBounds_toArray, List.map_append]
  have e : l.length + i = (l.map u8v).length + i := by simp
  rw [e, List.set_append_right _ _ (by omega), Nat.add_sub_cancel_left]
  congr 1
  have : i = 0 ∨ i = 1 ∨ i = 2 := by omega
  rcases this with rfl | rfl | rfl <;> simp [marks, List.replicate, u8v]
theorem size1 : (Try.prog.info? 5).map (·.size) = some 1 := by kernel_rfl
/-- Ahead of each mark. -/
def LentRel (w : World) (l : List UInt8) (v : Value) (wr : World) : Prop :=
  ∃ i : Nat, i ≤ 3 ∧ v = .int .i64 ((l.length + i : Nat) : Int) ∧ Blk wr w.heap.size 5 ((l ++ ((marks l.length).take i ++ List.replicate (3 - i) 0)).map u8v).toArray ∧ Below w.heap.size w wr
set_option maxHeartbeats 400000 in
theorem lentBytes_any (A : Option Addr) (n c : Nat) (l : List UInt8) (hn : n = l.length) (hl : l.length ≤ 140737488351300) (w : World) (h : Bytes w A l) :
    Calls Try.prog 19 #[.slice A n c] w fun e w' => e = .returned (.slice (some ⟨w.heap.size, 0, none⟩) l.length (l.length + 3)) ∧ Blk w' w.heap.size 5 ((l ++ marks l.length).map u8v).toArray ∧ Below w.heap.size w w' := by
  subst hn
  go_enter Try.func19, Try.ntmps19
  go_wp2_with (first
    | (show wpList _ _ _ ((⟨some 8, _, _, _, _, _⟩ : Oper) :: _) _ _; refine wpList_make_bytes (o := ⟨some 8, _, _, _, _, _⟩) _ (by rfl) _ _ _ (by rfl) _ Try.underlying43 u8info .i64 .i64 _ _ (l.length + 3) (l.length + 3) (by rfl) (by rfl) (by omega) (by omega) (Nat.le_refl _) (by omega) ?_; intro w1 h1 hb1 _; have hb := h.below hb1)
    | (show wpList _ _ _ ((⟨some 11, _, _, _, _, _⟩ : Oper) :: _) _ _; refine wpList_copy_bytes (o := ⟨some 11, _, _, _, _, _⟩) (by rfl) _ _ _ _ (by rfl) 5 Try.underlying43 size1 w.heap.size (l.length + 3) (l.length + 3) A l.length c (by rfl) (by rfl) (List.replicate (l.length + 3) 0) l _ h1 rfl hb (by simp) (by omega) ?_; intro w2 h2 hu2; have hb2 := hb1.upd hu2 (Nat.le_refl _); clear h1 hb1 hu2 hb)
    | fail)
  have h3 : Blk w2 w.heap.size 5 ((l ++ ((marks l.length).take 0 ++ List.replicate (3 - 0) 0)).map u8v).toArray := by
    refine h2.sub ?_
    simp
  clear h2
  go_loopw [4] (fun v wr => LentRel w l v wr) (fun v _ => l.length + 3 - (intOf v).toNat)
  case atStart => exact ⟨0, by omega, rfl, h3, hb2⟩
  case round =>
    clear h3 hb2
    obtain ⟨i, hi, rfl, hw, hbw⟩ := hrel
    obtain ⟨p, hp⟩ : ∃ p, p = l.length + i := ⟨_, rfl⟩
    rw [← hp]
    have HP := Lib.hid hp
    by_cases h3 : i < 3
    · have d0 : ∃ u, wr.cell? ⟨w.heap.size, p, none⟩ = some u := by
        rw [hw.cell]
        exact ⟨_, Array.getElem?_eq_getElem (by simp [marks]; omega)⟩
      obtain ⟨u, d0⟩ := d0
      have f0 := hw.frozen p
      have eb : 160 + (p : Int) % 90 = iu8 (mark1 p) := by unfold mark1; rw [iu8_ofNat _ (by omega)]; omega
      have hplt : p < l.length + 3 := by omega
      clear hp
      have ho := hw.set_ p (.int .u8 (iu8 (mark1 p)))
      replace ho := ho.sub (show _ = ((l ++ ((marks l.length).take (i + 1) ++ List.replicate (3 - (i + 1)) 0)).map u8v).toArray by rw [HP.out]; exact lent_set l l.length i h3)
      have HO := Lib.hid ho
      clear ho
      go_wp2
      go_roundw
      case rel => exact ⟨i + 1, by omega, by have := HP.out; go_num, HO.out, hbw.set_ (Nat.le_refl _) _⟩
      case measure => simp [intOf]; omega
    · obtain rfl : i = 3 := by omega
      have hp3 : p = l.length + 3 := hp
      subst hp3
      have HW := Lib.hid hw
      clear hw HP hp
      go_wp2
      go_ret
      exact ⟨rfl, HW.out.sub (by simp [marks]), hbw⟩
set_option maxHeartbeats 400000 in
theorem keptBytes_any (g d n c m : Nat) (B : Option Addr) (l : List UInt8) (hn : n = l.length) (hc : c = l.length + 3) (hm : m = l.length) (hl : l.length ≤ 140737488351300) (w : World) (h : Blk w g 5 ((l ++ marks l.length).map u8v).toArray) (hb : Bytes w B l) :
    Calls Try.prog 27 #[.slice (some ⟨g, 0, none⟩) n c, .slice B m d] w fun e w' => e = .returned (.bool true) ∧ Below w.heap.size w w' := by
  subst hn hc hm
  go_enter Try.func27, Try.ntmps27
  go_wp2
  refine wp_region_mix (fun w' => w' = w.drew) [0, 1, 2, 3, 4, 5, 6, 7, 8, 9, 10, 12, 13, 14] [] 11 [15, 16, 17, 18] (by kernel_rfl) (by kernel_rfl) (fun c a a' w h q => ⟨h ▸ q.1, q.2⟩) rfl ?_
  dsimp only [List.filterMap, List.getElem?_cons_zero, List.getElem?_cons_succ]
  repeat (go_big_quiet_step (fail))
  refine wpQuiet_nil ?_
  refine wpQuiet_nil ?_
  rintro w1 rfl
  go_wp2_with fail
  refine (lentBytes_any B l.length d l rfl hl w.drew (Bytes.below hb (Below.refl _ _).drew)).mono ?_
  rintro e w2 ⟨rfl, h2, hb2⟩
  have hb3 : Below w.heap.size w w2 := (Below.refl _ _).drew.trans hb2
  have h3 : Blk w2 g 5 ((l ++ marks l.length).map u8v).toArray := h.below hb3 h.lt
  go_wp2_with fail
  refine (sameBytes_any (some ⟨g, 0, none⟩) (some ⟨w.drew.heap.size, 0, none⟩) (l.length + 3) (l.length + 3) (l.length + 3) (l.length + 3) (l ++ marks l.length) (l ++ marks l.length) (by simp [marks]) (by simp [marks]) w2 h3.bytes h2.bytes).mono ?_
  rintro e w3 ⟨rfl, rfl⟩
  clear h2 h3 h
  go_wp2
  go_ret
  exact ⟨by simp, hb3⟩
end Proofs.Ytlfgjiahnfakdaa
end Go

/- make of a list of sectors of noughts, and of a map. Plain facts over any program. Conditions: as many as the memory holds. -/
namespace Go
open Go.RowKit
theorem madeCells_noughts (Z : Array Value) (hz : ∀ i, i < Z.size → Z[i]? = some (.int .u8 0)) (h0 : 0 < Z.size) (m : Nat) : madeCells Z m = ((List.replicate m (0 : UInt8)).map u8v).toArray := by
  unfold madeCells
  apply Array.ext_getElem?
  intro j
  by_cases hj : j < m
  · have h1 := hz (j % Z.size) (Nat.mod_lt _ h0)
    have h2 : Z[j % Z.size]! = .int .u8 0 := by rw [getElem!_def, h1]
    simp only [Array.getElem?_map, Array.getElem?_range, hj, if_true, Option.map_some, h2, List.getElem?_toArray, List.getElem?_map, List.getElem?_replicate]
    rfl
  · simp [hj]
theorem wpList_make_rows {P : Program} (w : World) {ops : Array Oper} {rest : List Oper} {o : Oper} {a : Act} {Q : Exit → Act → World → Prop}
    (hg : o.guard = none) (l c : Operand) (t : TypeId) (hop : o.op = Op.makeSlice t l c) (e : TypeId) (h1 : P.underlying t = some (.slice e)) (Z : Array Value) (s : Nat) (h2 : (P.info? e).map (fun i => (i.zero, i.size, i.bytes)) = some (some (.agg Z), s, s))
    (hZs : Z.size = s) (h0 : 0 < s) (hz : ∀ i, i < Z.size → Z[i]? = some (.int .u8 0)) (kl kc : IntKind) (n : Nat) (hl : a.eval l = .int kl (n : Int)) (hc : a.eval c = .int kc (n : Int)) (hm : s * n ≤ 140737488400000)
    (hK : ∀ w', Blk w' w.heap.size e ((List.replicate (n * s) (0 : UInt8)).map u8v).toArray → Below w.heap.size w w' → w'.heap.size = w.heap.size + 1 → wpList P ops Q rest (a.put o.dst (.slice (some ⟨w.heap.size, 0, none⟩) n n)) w') :
    wpList P ops Q (o :: rest) a w := by
  obtain ⟨i, hi, hzz⟩ := Option.map_eq_some_iff.1 h2
  simp only [Prod.mk.injEq] at hzz
  obtain ⟨hz1, hs, hb⟩ := hzz
  have hns : n ≤ s * n := Nat.le_mul_of_pos_left n h0
  have hr := run_make (P := P) w t e i _ h1 hi hz1 kl kc n n (by omega) (by omega) (by rw [hb, ← Int.natCast_mul]; omega) (by omega)
  rw [Int.toNat_natCast, hs, show (Value.agg Z).cells = Z from rfl, madeCells_noughts Z hz (by omega)] at hr
  refine wpList_plain hg fun K hK' => ?_
  unfold Oper.wp
  simp only [execOp, hop, hl, hc, hr, Sem.run_bind, Result.andThen_ok, Sem.run_pure]
  exact hK' _ _ (hK _ (Blk.new w e _) ((Below.refl _ _).alloc (Nat.le_refl _) _) (by simp))
theorem wpList_make_map {P : Program} (w : World) {ops : Array Oper} {rest : List Oper} {o : Oper} {a : Act} {Q : Exit → Act → World → Prop} (hg : o.guard = none) (t : TypeId) (hop : o.op = Op.makeMap t none)
    (h : ∀ w', MapB w' w.heap.size #[] 0 → Below w.heap.size w w' → w'.heap.size = w.heap.size + 1 → wpList P ops Q rest (a.put o.dst (.map (some w.heap.size))) w') : wpList P ops Q (o :: rest) a w := by
  have hr : (Instr.makeMap t none).run P w = .ok (.map (some w.heap.size)) (w.alloc (.map #[] 0)) := by
    simp [Instr.makeMap, newObj, Sem.run, Result.andThen]
  refine wpList_plain hg fun K hK => ?_
  unfold Oper.wp
  simp only [execOp, hop, Option.map_none, hr, Sem.run_bind, Result.andThen_ok, Sem.run_pure]
  exact hK _ _ (h _ (MapB.new w _ _) ((Below.refl _ _).alloc (Nat.le_refl _) _) (by simp))
end Go

/- Loads of whole arrays and structs out of the middle of a block. Plain facts. Condition: the cells are known. -/
namespace Go.Proofs.Ytlfgjiahnfakdaa
open Go.RowKit
/-- A load of a whole array or struct out of the middle of a block. -/
theorem wpList_load_mid {P : Program} {w : World} {Q : Exit → Act → World → Prop} {ops : Array Oper} {rest : List Oper} {o : Oper} {a : Act} {b off : Nat} {cs : List Value} (hb : w.rangeAt b off cs) (hgd : o.guard = none) (ty : TypeId) (x : Operand) (ho : o.op = .load ty x)
    (hx : a.eval x = .pointer (some ⟨b, off, none⟩)) (d : TypeDesc) (hu : P.underlying ty = some d) (hd : d.isRow = true) {n : Nat} (hi : (P.info? ty).map (·.size) = some n) (hn : cs.length = n)
    (h : wpList P ops Q rest (a.put o.dst (.agg cs.toArray)) w) : wpList P ops Q (o :: rest) a w :=
  wpList_run (.agg cs.toArray) hgd (by
    unfold execOp
    simp only [ho, hx, Instr.loadAt, Instr.sureAddr, Sem.run_bind, Sem.run_pure, Result.andThen_ok, run_loadVar_mid w b off ty cs d hb hu hd (hn ▸ hi)]) h
theorem range2 {w : World} {b off : Nat} {u v : Value} (h1 : w.cell? ⟨b, off, none⟩ = some u) (h2 : w.cell? ⟨b, off + 1, none⟩ = some v) : w.rangeAt b off [u, v] := fun j x hx => by
  match j with
  | 0 => simp at hx; subst hx; exact h1
  | 1 => simp at hx; subst hx; exact h2
theorem Blk.range {w : World} {b : Nat} {t : TypeId} {cs : Array Value} (h : Blk w b t cs) (o : Nat) (l : List Value) (hl : ∀ j v, l[j]? = some v → cs[o + j]? = some v) : w.rangeAt b o l := fun j v hv => h.at_ (o + j) (hl j v hv)
end Go.Proofs.Ytlfgjiahnfakdaa

/- What a call hands back whose first result lies in a block; reads over an Upd step. Plain facts over any program. No condition. -/
namespace Go
open Go.RowKit
theorem Bytes.range {w : World} {b off : Nat} {l : List UInt8} (h : Bytes w (some ⟨b, off, none⟩) l) : w.rangeAt b off (l.map u8v) := fun j v hv => by
  have hne : l.map u8v ≠ [] := by intro e; rw [e] at hv; simp at hv
  obtain ⟨b', off', e, hc⟩ := h hne
  simp only [Option.some.injEq, Addr.mk.injEq, and_true] at e
  rw [e.1, e.2]; exact hc j v hv
theorem Upd.cell {g : Nat} {w w' : World} (u : Upd g w w') {p : Addr} (hp : p.block ≠ g) : w'.cell? p = w.cell? p := by
  unfold World.cell?
  rw [u.block p.block hp]
theorem Reads.upd {g : Nat} {w w' : World} {A : Option Addr} {xs : List Value} (h : Reads w A xs) (u : Upd g w w') (hA : ∀ ad, A = some ad → ad.block ≠ g) : Reads w' A xs := fun hn => by
  obtain ⟨b, off, rfl, hc⟩ := h hn
  exact ⟨b, off, rfl, fun j v hv => (u.cell (p := ⟨b, off + j, none⟩) (hA ⟨b, off, none⟩ rfl)).trans (hc j v hv)⟩
theorem results_row_tmp {P : Program} {fn : Func} {p q : Tmp} {ty : TypeId} (h : fn.results = #[.cell p ty, .tmp q]) (tmps : Array Value) (w : World) (g : Nat) (t : TypeId) (cs : Array Value) (d : TypeDesc)
    (hp : tmps.getD p undef = .pointer (some ⟨g, 0, none⟩)) (hg : Blk w g t cs)
    (hu : P.underlying ty = some d) (hd : (match d with | .struct _ | .array _ _ => true | _ => false) = true) (hi : (P.info? ty).map (·.size) = some cs.size) :
    (results fn tmps).run P w = .ok (.tuple #[.agg cs, tmps.getD q undef]) w := by
  have hp' : tmps[p]?.getD undef = .pointer (some ⟨g, 0, none⟩) := by simpa using hp
  simp [results, h, hp', asAddr, run_loadVar_row w g t ty cs (0, 0) d hg hu hd hi]
end Go

/- A disk as the program keeps it; is it none, is it out, is it ready, how many sectors has it, is it up. Conditions: the disk is one that was made, or none. -/
namespace Go.Proofs.Ytlfgjiahnfakdaa
open Go.RowKit
/-- A disk's own block: its sectors' bytes in gl, its loose sectors in gm, is it out, its fuse, its changes. -/
def dkc (gl gm N : Nat) (out : Bool) (fz : Option Nat) (ops : Int) : Array Value := #[.slice (some ⟨gl, 0, none⟩) N N, .map (some gm), .bool out, .pointer (fz.map fun g => ⟨g, 0, none⟩), .int .i64 ops]
def DiskB (w : World) (gd gl gm N : Nat) (L : List UInt8) (es : Array MapEntry) (c : Nat) (out : Bool) (fz : Option Nat) (ops : Int) : Prop :=
  Blk w gd 32 (dkc gl gm N out fz ops) ∧ Blk w gl 113 (L.map u8v).toArray ∧ MapB w gm es c
def FuseB (w : World) (gf : Nat) (left : Int) (gone : Bool) : Prop := Blk w gf 121 #[.int .i64 left, .bool gone]
def noDisk : Array Value := #[.slice none 0 0, .map none, .bool false, .pointer none, .int .i64 0]
theorem DiskB.below {w w' : World} {gd gl gm N : Nat} {L : List UInt8} {es : Array MapEntry} {c : Nat} {out : Bool} {fz : Option Nat} {ops : Int} (h : DiskB w gd gl gm N L es c out fz ops) (hb : Below w.heap.size w w') : DiskB w' gd gl gm N L es c out fz ops :=
  ⟨h.1.below hb h.1.lt, h.2.1.below hb h.2.1.lt, h.2.2.below hb h.2.2.lt⟩
instance {w w' : World} {gd gl gm N : Nat} {L : List UInt8} {es : Array MapEntry} {c : Nat} {out : Bool} {fz : Option Nat} {ops : Int} : KeepsTo w w' (DiskB w gd gl gm N L es c out fz ops) (DiskB w' gd gl gm N L es c out fz ops) := ⟨fun hb h => h.below hb⟩
theorem FuseB.below {w w' : World} {gf : Nat} {left : Int} {gone : Bool} (h : FuseB w gf left gone) (hb : Below w.heap.size w w') : FuseB w' gf left gone := Blk.below (h : Blk w gf 121 _) hb h.lt
instance {w w' : World} {gf : Nat} {left : Int} {gone : Bool} : KeepsTo w w' (FuseB w gf left gone) (FuseB w' gf left gone) := ⟨fun hb h => h.below hb⟩
theorem eqlNil (w : World) : (binOp .eql 28 (.slice none 0 0) (.slice none 0 0)).run Try.prog w = .ok (.bool true) w := by kernel_rfl
theorem eqlSome (g N : Nat) (w : World) : (binOp .eql 28 (.slice (some ⟨g, 0, none⟩) N N) (.slice none 0 0)).run Try.prog w = .ok (.bool false) w := by kernel_rfl
theorem none_nil (w : World) : Calls Try.prog 68 #[.pointer none] w fun e w' => e = .returned (.bool true) ∧ w' = w := by
  go_enter Try.func68, Try.ntmps68
  go_wp2
  go_ret
  exact ⟨rfl, rfl⟩
set_option maxRecDepth 100000 in
theorem none_zero (g : Nat) (w : World) (h : Blk w g 32 noDisk) : Calls Try.prog 68 #[.pointer (some ⟨g, 0, none⟩)] w fun e w' => e = .returned (.bool true) ∧ w' = w := by
  have d0 := h.at_ 0 (v := .slice none 0 0) rfl
  have he := eqlNil
  clear h
  go_enter Try.func68, Try.ntmps68
  go_wp2
  go_ret
  exact ⟨rfl, rfl⟩
section
variable {gd gl gm N c : Nat} {L : List UInt8} {es : Array MapEntry} {out : Bool} {fz : Option Nat} {ops : Int}
set_option maxRecDepth 100000 in
theorem none_made (w : World) (h : DiskB w gd gl gm N L es c out fz ops) : Calls Try.prog 68 #[.pointer (some ⟨gd, 0, none⟩)] w fun e w' => e = .returned (.bool false) ∧ w' = w := by
  have d0 := h.1.at_ 0 (v := .slice (some ⟨gl, 0, none⟩) N N) rfl
  have he := eqlSome gl N
  clear h
  go_enter Try.func68, Try.ntmps68
  go_wp2
  go_ret
  exact ⟨rfl, rfl⟩
/-- Is a disk out, its fuse being so? -/
def isOutV (out : Bool) (fz : Option (Nat × Int × Bool)) : Bool := out || (match fz with | none => false | some f => f.2.2)
set_option maxRecDepth 100000 in
theorem isOut_none (w : World) (h : DiskB w gd gl gm N L es c out none ops) : Calls Try.prog 75 #[.pointer (some ⟨gd, 0, none⟩)] w fun e w' => e = .returned (.bool out) ∧ w' = w := by
  have d2 := h.1.at_ 2 (v := .bool out) rfl
  have d3 := h.1.at_ 3 (v := .pointer none) rfl
  clear h
  cases out
  all_goals
    go_enter Try.func75, Try.ntmps75
    go_wp2
    go_ret
    exact ⟨rfl, rfl⟩
set_option maxRecDepth 100000 in
theorem isOut_some (gf : Nat) (left : Int) (gone : Bool) (w : World) (h : DiskB w gd gl gm N L es c out (some gf) ops) (hf : FuseB w gf left gone) : Calls Try.prog 75 #[.pointer (some ⟨gd, 0, none⟩)] w fun e w' => e = .returned (.bool (out || gone)) ∧ w' = w := by
  have d2 := h.1.at_ 2 (v := .bool out) rfl
  have d3 := h.1.at_ 3 (v := .pointer (some ⟨gf, 0, none⟩)) rfl
  have d1 := Blk.at_ (hf : Blk w gf _ _) 1 (v := .bool gone) rfl
  clear h hf
  cases out
  all_goals
    go_enter Try.func75, Try.ntmps75
    go_wp2
    go_ret
    exact ⟨rfl, rfl⟩
end
end Go.Proofs.Ytlfgjiahnfakdaa
