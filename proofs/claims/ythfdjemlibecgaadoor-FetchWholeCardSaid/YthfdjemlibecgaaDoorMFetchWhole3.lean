/- Maps keyed by ints, in a block of the call's own: what is looked up, stored, cleared, made. Plain facts over any program. No condition. -/
import Derived.Test.YthfdjemlibecgaaDoorMFetchWhole2
import Derived.MapKept
import Derived.WideKeyRuns
import GoSem.Instr.MapEntry
import Derived.RangeFuncWrites
import Derived.RangeFuncBound
import Derived.RangeFuncCalls
import Derived.RangeFuncLeaves
import Derived.WalkKit
import Derived.OwnWalkIn
import Derived.TacticsInMore
import Derived.LoopNIn
import Derived.LoopIn
namespace Go
open Go.RowKit Go.Instr Go.MapKept
/-- A map's block. -/
def MapB (w : World) (g : Nat) (es : Array MapEntry) (c : Nat) : Prop := w.heap[g]? = some (.map es c)
section
variable {w w' : World} {g : Nat} {es : Array MapEntry} {c : Nat}
theorem MapB.lt (h : MapB w g es c) : g < w.heap.size := (Array.getElem?_eq_some_iff.1 h).1
theorem MapB.below {B : Nat} (h : MapB w g es c) (hb : Below B w w') (hlt : g < B) : MapB w' g es c := (hb.block g hlt).trans h
theorem MapB.upd {k : Nat} (h : MapB w g es c) (u : Upd k w w') (hne : g ≠ k) : MapB w' g es c := (u.block g hne).trans h
theorem MapB.drew (h : MapB w g es c) : MapB w.drew g es c := h
theorem MapB.alloc (h : MapB w g es c) (o : Obj) : MapB (w.alloc o) g es c := by
  have hl := h.lt
  unfold MapB at *
  rw [← h]
  exact ((Below.refl w.heap.size w).alloc (Nat.le_refl _) o).block g hl
theorem MapB.new (w : World) (es : Array MapEntry) (c : Nat) : MapB (w.alloc (.map es c)) w.heap.size es c := heap_alloc_last w _
instance : KeepsTo w w' (MapB w g es c) (MapB w' g es c) := ⟨fun hb h => h.below hb h.lt⟩
end
/-- The place and the element of a key. -/
def mfind : List MapEntry → Int → Nat → Option (Nat × Value)
  | [], _, _ => none
  | e :: es, a, i => match e.key with
    | .int .i64 b => if a = b then some (i, e.val) else mfind es a (i + 1)
    | _ => mfind es a (i + 1)
def IntKeys (es : List MapEntry) : Prop := ∀ e ∈ es, ∃ a, e.key = .int .i64 a
def mget (es : Array MapEntry) (a : Int) : Option Value := (mfind es.toList a 0).map (·.2)
theorem findNow_int (a : Int) : ∀ (es : List MapEntry) (i : Nat), IntKeys es → findNow (.int .i64) (.int .i64 a) es i = some (mfind es a i)
  | [], _, _ => rfl
  | e :: es, i, h => by
    obtain ⟨b, hb⟩ := h e (.head _)
    have ih := findNow_int a es (i + 1) (fun x hx => h x (.tail _ hx))
    unfold findNow mfind
    rw [hb]
    by_cases hab : a = b
    · subst hab; simp [sameNow]
    · simp only [sameNow, if_true, beq_eq_false_iff_ne.2 hab, if_neg hab, ih]
/-- What a store leaves. -/
def mput (es : Array MapEntry) (c : Nat) (a : Int) (v : Value) : Array MapEntry × Nat :=
  match mfind es.toList a 0 with
  | some (i, _) => (es.modify i fun e => { e with key := .int .i64 a, val := v }, c)
  | none => (es.push { key := .int .i64 a, val := v, born := c }, c + 1)
theorem mfind_lt (a : Int) : ∀ (es : List MapEntry) (i j : Nat) (v : Value), mfind es a i = some (j, v) → i ≤ j ∧ ∃ e, es[j - i]? = some e ∧ e.key = .int .i64 a ∧ e.val = v
  | [], _, _, _, h => by cases h
  | e :: es, i, j, v, h => by
    unfold mfind at h
    split at h
    · rename_i b hb
      by_cases hab : a = b
      · rw [if_pos hab] at h
        injection h with h; injection h with h1 h2
        subst h1 h2
        exact ⟨Nat.le_refl _, e, by simp, by rw [hb, hab], rfl⟩
      · rw [if_neg hab] at h
        obtain ⟨h1, e', h2, h3⟩ := mfind_lt a es (i + 1) j v h
        exact ⟨by omega, e', by rw [show j - i = (j - (i + 1)) + 1 by omega]; simpa using h2, h3⟩
    · obtain ⟨h1, e', h2, h3⟩ := mfind_lt a es (i + 1) j v h
      exact ⟨by omega, e', by rw [show j - i = (j - (i + 1)) + 1 by omega]; simpa using h2, h3⟩
theorem IntKeys.put {es : Array MapEntry} {c : Nat} {a : Int} {v : Value} (h : IntKeys es.toList) : IntKeys (mput es c a v).1.toList := by
  unfold mput
  split
  · intro e he
    rw [Array.toList_modify] at he
    obtain ⟨k, hk, rfl⟩ := List.getElem_of_mem he
    rw [List.getElem_modify]
    split
    · exact ⟨a, rfl⟩
    · exact h _ (List.getElem_mem _)
  · intro e he
    rw [Array.toList_push, List.mem_append, List.mem_singleton] at he
    rcases he with he | rfl
    · exact h e he
    · exact ⟨a, rfl⟩
section
variable {P : Program} {w : World} {ops : Array Oper} {rest : List Oper} {o : Oper} {a : Act} {Q : Exit → Act → World → Prop}
theorem run_lookup_int (t kt et : TypeId) (ht : P.underlying t = some (.map kt et)) (hk : P.underlying kt = some (.int .i64)) (g : Nat) (es : Array MapEntry) (c : Nat) (hg : MapB w g es c) (hes : IntKeys es.toList) (x : Int) (z : Value)
    (hz : (zeroValue et).run P w = .ok z w) : (lookup t (.map (some g)) (.int .i64 x) true).run P w = .ok (.tuple #[(mget es x).getD z, .bool (mget es x).isSome]) w := by
  have h1 := run_checkKey (P := P) (w := w) (k := .int .i64 x) hk rfl es.isEmpty 9999
  have h2 := run_findKey (w := w) hk (findNow_int x es.toList 0 hes)
  have h0 : (getObj g).run P w = .ok (.map es c) w := MapKept.run_getObj_map hg
  unfold lookup mget
  cases hm : mfind es.toList x 0 with
  | none => rw [hm] at h2; simp [run_underlying ht, h0, h1, h2, hz, Result.andThen]
  | some p => rw [hm] at h2; simp [run_underlying ht, h0, h1, h2, Result.andThen]
theorem wpList_lookup_int (hgd : o.guard = none) (t kt et : TypeId) (m k : Operand) (ho : o.op = .lookup t m k true) (ht : P.underlying t = some (.map kt et)) (hk : P.underlying kt = some (.int .i64)) (g : Nat) (es : Array MapEntry) (c : Nat)
    (hg : MapB w g es c) (hes : IntKeys es.toList) (x : Int) (z : Value) (hz : (zeroValue et).run P w = .ok z w) (hm : a.eval m = .map (some g)) (hx : a.eval k = .int .i64 x)
    (h : wpList P ops Q rest (a.put o.dst (.tuple #[(mget es x).getD z, .bool (mget es x).isSome])) w) : wpList P ops Q (o :: rest) a w :=
  wpList_run _ hgd (by unfold execOp; simp only [ho, hm, hx, run_lookup_int t kt et ht hk g es c hg hes x z hz, Sem.run_bind, Result.andThen_ok, Sem.run_pure]) h
theorem sameBits_int (x : Int) : sameBits 10000 (.int .i64 x) (.int .i64 x) = true := by simp [sameBits]
theorem run_mapUpdate_int (t kt et : TypeId) (ht : P.underlying t = some (.map kt et)) (hk : P.underlying kt = some (.int .i64)) (g : Nat) (es : Array MapEntry) (c : Nat) (hg : MapB w g es c) (hes : IntKeys es.toList) (x : Int) (v : Value) :
    ∃ w', (mapUpdate t (.map (some g)) (.int .i64 x) v).run P w = .ok () w' ∧ MapB w' g (mput es c x v).1 (mput es c x v).2 ∧ Upd g w w' := by
  have h1 := run_checkKey (P := P) (w := w) (k := .int .i64 x) hk rfl false 9999
  have h2 := run_findKey (w := w) hk (findNow_int x es.toList 0 hes)
  have hu : ∀ ob, MapB w g es c → Upd g w { w with heap := w.heap.setIfInBounds g ob } := fun ob _ => ⟨rfl, rfl, rfl, by simp, fun k hk => by simp [Ne.symm hk]⟩
  have h0 : (getObj g).run P w = .ok (.map es c) w := MapKept.run_getObj_map hg
  have hs : ∀ ob, (setObj g ob).run P w = .ok () { w with heap := w.heap.setIfInBounds g ob } := fun ob => MapKept.run_setObj_map ob hg
  unfold mapUpdate mput
  cases hm : mfind es.toList x 0 with
  | none =>
    rw [hm] at h2
    simp only [Sem.run_bind, run_underlying ht, Result.andThen_ok, h0, h1, h2, hs]
    exact ⟨_, rfl, (heap_set hg).1, hu _ hg⟩
  | some p =>
    obtain ⟨i, v0⟩ := p
    obtain ⟨_, e, h3, h4, _⟩ := mfind_lt x es.toList 0 i v0 hm
    have h5 : ((es[i]?).map (·.key)).getD (.int .i64 x) = .int .i64 x := by
      rw [Nat.sub_zero, Array.getElem?_toList] at h3
      rw [h3]; exact h4
    rw [hm] at h2
    simp only [Sem.run_bind, run_underlying ht, Result.andThen_ok, h0, h1, h2, h5, keyThatStays, sameBits_int, if_true, Sem.run_pure, hs]
    exact ⟨_, rfl, (heap_set hg).1, hu _ hg⟩
theorem wpList_mapUpdate_int (hgd : o.guard = none) (t kt et : TypeId) (m k y : Operand) (ho : o.op = .mapUpdate t m k y) (ht : P.underlying t = some (.map kt et)) (hk : P.underlying kt = some (.int .i64)) (g : Nat) (es : Array MapEntry) (c : Nat)
    (hg : MapB w g es c) (hes : IntKeys es.toList) (x : Int) (v : Value) (hm : a.eval m = .map (some g)) (hx : a.eval k = .int .i64 x) (hy : a.eval y = v)
    (h : ∀ w', MapB w' g (mput es c x v).1 (mput es c x v).2 → Upd g w w' → wpList P ops Q rest (a.put o.dst undef) w') : wpList P ops Q (o :: rest) a w := by
  obtain ⟨w', h1, h2, h3⟩ := run_mapUpdate_int t kt et ht hk g es c hg hes x v
  refine wpList_plain hgd fun _ hK => ?_
  unfold Oper.wp execOp
  simp only [ho, hm, hx, hy, h1, Sem.run_bind, Sem.run_pure, Result.andThen_ok]
  exact hK _ _ (h w' h2 h3)
theorem wpList_clear_map (hgd : o.guard = none) (t : TypeId) (m : Operand) (d : TypeDesc) (ho : o.op = .call { callee := .builtin .clear, args := #[m], argTypes := #[t] }) (ht : P.underlying t = some d) (g : Nat) (es : Array MapEntry) (c : Nat)
    (hg : MapB w g es c) (hm : a.eval m = .map (some g)) (h : ∀ w', MapB w' g #[] c → Upd g w w' → wpList P ops Q rest (a.put o.dst (.tuple #[])) w') : wpList P ops Q (o :: rest) a w := by
  refine wpList_plain hgd fun _ hK => ?_
  have hr : (Builtin.clear_ #[t] o.type #[.map (some g)]).run P w = .ok (.tuple #[]) { w with heap := w.heap.setIfInBounds g (.map #[] c) } := by
    unfold Builtin.clear_
    have h0 : (getObj g).run P w = .ok (.map es c) w := MapKept.run_getObj_map hg
    have hs : ∀ ob, (setObj g ob).run P w = .ok () { w with heap := w.heap.setIfInBounds g ob } := fun ob => MapKept.run_setObj_map ob hg
    simp [run_underlying ht, h0, hs, Result.andThen]
  unfold Oper.wp
  simp [execOp, ho, resolve, invoke, builtin, hm, hr, Result.andThen]
  exact hK _ _ (h _ (heap_set hg).1 ⟨rfl, rfl, rfl, by simp, fun k hk => by simp [Ne.symm hk]⟩)
end
end Go

/- Worlds that differ in a few blocks and in new ones alone. Plain facts. No condition. -/
namespace Go
open Go.RowKit
/-- Of the blocks that were there, those of X alone may have been written. -/
structure Near (X : List Nat) (w w' : World) : Prop where
  os : w'.os = w.os
  tape : w'.tape = w.tape
  output : w'.output = w.output
  size : w.heap.size ≤ w'.heap.size
  block : ∀ k, k < w.heap.size → k ∉ X → w'.heap[k]? = w.heap[k]?
section
variable {X Y : List Nat} {w w' w'' : World}
theorem Near.refl (X : List Nat) (w : World) : Near X w w := ⟨rfl, rfl, rfl, Nat.le_refl _, fun _ _ _ => rfl⟩
theorem Near.trans (h : Near X w w') (k : Near X w' w'') : Near X w w'' :=
  ⟨k.os.trans h.os, k.tape.trans h.tape, k.output.trans h.output, Nat.le_trans h.size k.size, fun x hx hn => (k.block x (Nat.lt_of_lt_of_le hx h.size) hn).trans (h.block x hx hn)⟩
theorem Near.wider (h : Near X w w') (hs : ∀ x ∈ X, x ∈ Y) : Near Y w w' := ⟨h.os, h.tape, h.output, h.size, fun k hk hn => h.block k hk fun hx => hn (hs k hx)⟩
theorem Near.below (h : Below w.heap.size w w') : Near X w w' := ⟨h.os, h.tape, h.output, h.size, fun k hk _ => h.block k hk⟩
theorem Near.upd {g : Nat} (u : Upd g w w') (hg : g ∈ X) : Near X w w' := ⟨u.os, u.tape, u.output, by rw [u.size]; exact Nat.le_refl _, fun k _ hn => u.block k fun e => hn (e ▸ hg)⟩
theorem Near.drew (h : Near X w w') : Near X w w'.drew := ⟨h.os, h.tape, h.output, h.size, h.block⟩
/-- Blocks that came later may be written as well. -/
theorem Near.new {g : Nat} (h : Near X w w') (u : Upd g w' w'') (hg : w.heap.size ≤ g) : Near X w w'' :=
  ⟨u.os.trans h.os, u.tape.trans h.tape, u.output.trans h.output, by rw [u.size]; exact h.size, fun k hk hn => (u.block k (by omega)).trans (h.block k hk hn)⟩
theorem Near.toBelow {B : Nat} (h : Near X w w') (hX : ∀ x ∈ X, B ≤ x) (hB : B ≤ w.heap.size) : Below B w w' := ⟨h.os, h.tape, h.output, h.size, fun k hk => h.block k (by omega) fun hx => by have := hX k hx; omega⟩
theorem Blk.near {g : Nat} {t : TypeId} {cs : Array Value} (h : Blk w g t cs) (k : Near X w w') (hn : g ∉ X) : Blk w' g t cs := (k.block g h.lt hn).trans h
theorem MapB.near {g : Nat} {es : Array MapEntry} {c : Nat} (h : MapB w g es c) (k : Near X w w') (hn : g ∉ X) : MapB w' g es c := (k.block g h.lt hn).trans h
theorem Near.cell {p : Addr} (k : Near X w w') (hp : p.block < w.heap.size) (hn : p.block ∉ X) : w'.cell? p = w.cell? p := by
  unfold World.cell?; rw [k.block _ hp hn]
theorem Bytes.near {A : Option Addr} {l : List UInt8} (h : Bytes w A l) (k : Near X w w') (hn : ∀ ad, A = some ad → ad.block ∉ X) : Bytes w' A l := fun hne => by
  obtain ⟨b, off, e, hc⟩ := h hne
  refine ⟨b, off, e, fun j v hv => ?_⟩
  have h1 := hc j v hv
  exact (k.cell (p := ⟨b, off + j, none⟩) (World.block_lt_of_cell? w _ h1) (hn ⟨b, off, none⟩ e)).trans h1
end
end Go

/- Maps keyed by arrays or structs, in a block of the call's own: what is looked up, stored, stored through an entry. Plain facts over any program. No condition. -/
namespace Go
open Go.RowKit Go.Instr Go.MapKept
/-- Keys of a type: which values they are, that they may be keys, how they are compared. -/
structure KeyLaw (P : Program) (kt : TypeId) {α : Type} (ok : α → Prop) (enc : α → Value) : Prop where
  wide : (match P.underlying kt with | some (.array _ _) | some (.struct _) => true | _ => false) = true
  check : ∀ em x w, ok x → (checkKey em 10000 kt (enc x)).run P w = .ok () w
  eq : ∀ x y w, ok x → ok y → ∃ r : Bool, (Op.equal kt (enc x) (enc y)).run P w = .ok r w ∧ (r = true ↔ x = y)
  bits : ∀ x, ok x → sameBits 10000 (enc x) (enc x) = true
section
variable {α : Type}
def kfind [DecidableEq α] : List (α × Value) → α → Nat → Option (Nat × Value)
  | [], _, _ => none
  | p :: l, x, i => if x = p.1 then some (i, p.2) else kfind l x (i + 1)
def kget [DecidableEq α] (l : List (α × Value)) (x : α) : Option Value := (kfind l x 0).map (·.2)
/-- Where a key stands, or will stand. -/
def kat [DecidableEq α] (l : List (α × Value)) (x : α) : Nat := match kfind l x 0 with | some p => p.1 | none => l.length
/-- An entry is asked for. -/
def kask [DecidableEq α] (l : List (α × Value)) (x : α) (z : Value) : List (α × Value) := match kfind l x 0 with | some _ => l | none => l ++ [(x, z)]
def kput [DecidableEq α] (l : List (α × Value)) (x : α) (v : Value) : List (α × Value) := match kfind l x 0 with | some p => l.set p.1 (x, v) | none => l ++ [(x, v)]
theorem kfind_lt [DecidableEq α] {x : α} : ∀ (l : List (α × Value)) (i j : Nat) (v : Value), kfind l x i = some (j, v) → i ≤ j ∧ l[j - i]? = some (x, v)
  | [], _, _, _, h => by cases h
  | p :: l, i, j, v, h => by
    unfold kfind at h
    by_cases hx : x = p.1
    · rw [if_pos hx] at h
      injection h with h; injection h with h1 h2
      subst h1 h2
      exact ⟨Nat.le_refl _, by rw [Nat.sub_self, hx]; rfl⟩
    · rw [if_neg hx] at h
      obtain ⟨h1, h2⟩ := kfind_lt l (i + 1) j v h
      exact ⟨by omega, by rw [show j - i = (j - (i + 1)) + 1 by omega]; simpa using h2⟩
theorem kfind_shift [DecidableEq α] {x : α} : ∀ (l : List (α × Value)) (i : Nat), kfind l x i = (kfind l x 0).map fun p => (p.1 + i, p.2)
  | [], _ => rfl
  | p :: l, i => by
    unfold kfind
    by_cases hx : x = p.1
    · rw [if_pos hx, if_pos hx]; simp
    · rw [if_neg hx, if_neg hx, kfind_shift l (i + 1), kfind_shift l 1, Option.map_map]
      congr 1
      funext p
      simp only [Function.comp, Prod.mk.injEq, and_true]
      omega
theorem kget_cons [DecidableEq α] {p : α × Value} {l : List (α × Value)} {x : α} : kget (p :: l) x = if x = p.1 then some p.2 else kget l x := by
  unfold kget
  rw [kfind]
  by_cases hx : x = p.1
  · rw [if_pos hx, if_pos hx]; rfl
  · rw [if_neg hx, if_neg hx, kfind_shift l 1, Option.map_map]
    rfl
theorem kput_cons [DecidableEq α] {p : α × Value} {l : List (α × Value)} {x : α} {v : Value} : kput (p :: l) x v = if x = p.1 then (x, v) :: l else p :: kput l x v := by
  unfold kput
  rw [kfind]
  by_cases hx : x = p.1
  · rw [if_pos hx, if_pos hx]; rfl
  · rw [if_neg hx, if_neg hx, kfind_shift l 1]
    cases kfind l x 0 <;> rfl
theorem kget_put [DecidableEq α] (l : List (α × Value)) (x y : α) (v : Value) : kget (kput l x v) y = if y = x then some v else kget l y := by
  induction l with
  | nil =>
    show kget [(x, v)] y = _
    rw [kget_cons]
  | cons p l ih =>
    rw [kput_cons]
    by_cases hx : x = p.1
    · rw [if_pos hx, kget_cons, kget_cons]
      by_cases hy : y = x
      · rw [if_pos hy, if_pos hy]
      · rw [if_neg hy, if_neg hy, if_neg (by rw [← hx]; exact hy)]
    · rw [if_neg hx, kget_cons, kget_cons, ih]
      by_cases hy : y = p.1
      · rw [if_pos hy, if_pos hy, if_neg (by rw [hy]; exact fun e => hx e.symm)]
      · rw [if_neg hy, if_neg hy]
theorem kask_set [DecidableEq α] (l : List (α × Value)) (x : α) (z v : Value) : (kask l x z).set (kat l x) (x, v) = kput l x v := by
  unfold kask kat kput
  cases kfind l x 0 with
  | none => simp
  | some p => rfl
theorem kask_at [DecidableEq α] (l : List (α × Value)) (x : α) (z : Value) : ∃ v, (kask l x z)[kat l x]? = some (x, v) := by
  unfold kask kat
  cases h : kfind l x 0 with
  | none => exact ⟨z, by simp⟩
  | some p => exact ⟨p.2, by simpa using (kfind_lt l 0 p.1 p.2 h).2⟩
theorem kask_get [DecidableEq α] (l : List (α × Value)) (x : α) (z : Value) : (kget (kask l x z) x).getD z = (kget l x).getD z := by
  unfold kask
  cases h : kfind l x 0 with
  | some p => rfl
  | none =>
    have e : kput l x z = l ++ [(x, z)] := by unfold kput; rw [h]
    show (kget (l ++ [(x, z)]) x).getD z = _
    rw [← e, kget_put, if_pos rfl]
    unfold kget
    rw [h]; rfl
variable {P : Program} {kt : TypeId} {ok : α → Prop} {enc : α → Value}
/-- A map's entries are these pairs. -/
structure Says (ok : α → Prop) (enc : α → Value) (es : Array MapEntry) (c : Nat) (l : List (α × Value)) : Prop where
  pairs : es.toList.map (fun e => (e.key, e.val)) = l.map fun p => (enc p.1, p.2)
  born : (es.toList.map (·.born)).Nodup
  old : ∀ e ∈ es.toList, e.born < c
  ok : ∀ p ∈ l, ok p.1
def MapK (w : World) (g : Nat) (ok : α → Prop) (enc : α → Value) (l : List (α × Value)) : Prop := ∃ es c, MapB w g es c ∧ Says ok enc es c l
/-- And the entry of stamp b is the i-th. -/
def MapS (w : World) (g : Nat) (ok : α → Prop) (enc : α → Value) (l : List (α × Value)) (b : Int) (i : Nat) : Prop := ∃ es c, MapB w g es c ∧ Says ok enc es c l ∧ ∃ e, es[i]? = some e ∧ (e.born : Int) = b
theorem MapS.mapK {w : World} {g : Nat} {l : List (α × Value)} {b : Int} {i : Nat} (h : MapS w g ok enc l b i) : MapK w g ok enc l := by
  obtain ⟨es, c, h1, h2, _⟩ := h
  exact ⟨es, c, h1, h2⟩
theorem MapK.lt {w : World} {g : Nat} {l : List (α × Value)} (h : MapK w g ok enc l) : g < w.heap.size := by obtain ⟨es, c, h1, _⟩ := h; exact h1.lt
theorem MapK.near {w w' : World} {g : Nat} {l : List (α × Value)} {X : List Nat} (h : MapK w g ok enc l) (k : Near X w w') (hn : g ∉ X) : MapK w' g ok enc l := by obtain ⟨es, c, h1, h2⟩ := h; exact ⟨es, c, h1.near k hn, h2⟩
theorem MapS.near {w w' : World} {g : Nat} {l : List (α × Value)} {b : Int} {i : Nat} {X : List Nat} (h : MapS w g ok enc l b i) (k : Near X w w') (hn : g ∉ X) : MapS w' g ok enc l b i := by obtain ⟨es, c, h1, h2⟩ := h; exact ⟨es, c, h1.near k hn, h2⟩
theorem MapK.new (w : World) (c : Nat) : MapK (w.alloc (.map #[] c)) w.heap.size ok enc ([] : List (α × Value)) := ⟨#[], c, MapB.new w _ _, rfl, by simp, by simp, by simp⟩
theorem run_findAsking_k [DecidableEq α] (hk : KeyLaw P kt ok enc) (x : α) (hx : ok x) (w : World) : ∀ (es : List MapEntry) (l : List (α × Value)) (i : Nat), es.map (fun e => (e.key, e.val)) = l.map (fun p => (enc p.1, p.2)) → (∀ p ∈ l, ok p.1) → (findAsking kt (enc x) es i).run P w = .ok (kfind l x i) w
  | [], [], _, _, _ => by simp [findAsking, kfind]
  | [], _ :: _, _, h, _ => by simp at h
  | _ :: _, [], _, h, _ => by simp at h
  | e :: es, p :: l, i, h, ho => by
    simp only [List.map_cons, List.cons.injEq, Prod.mk.injEq] at h
    obtain ⟨⟨h1, h2⟩, h3⟩ := h
    obtain ⟨r, hr, hiff⟩ := hk.eq x p.1 w hx (ho p (.head _))
    have ih := run_findAsking_k hk x hx w es l (i + 1) h3 fun q hq => ho q (.tail _ hq)
    unfold findAsking kfind
    rw [h1]
    simp only [Sem.run_bind, hr, Result.andThen_ok]
    by_cases hxp : x = p.1
    · rw [hiff.2 hxp, if_pos hxp, h2]; simp
    · have : r = false := by cases r; rfl; exact absurd (hiff.1 rfl) hxp
      rw [this, if_neg hxp]
      simpa using ih
theorem run_findKey_k [DecidableEq α] (hk : KeyLaw P kt ok enc) (x : α) (hx : ok x) (w : World) {es : Array MapEntry} {c : Nat} {l : List (α × Value)} (hs : Says ok enc es c l) : (findKey kt (enc x) es.toList).run P w = .ok (kfind l x 0) w := by
  rw [run_findKey_eq (w := w) hk.wide]
  exact run_findAsking_k hk x hx w es.toList l 0 hs.pairs hs.ok
theorem run_lookup_k [DecidableEq α] (hk : KeyLaw P kt ok enc) (t et : TypeId) (ht : P.underlying t = some (.map kt et)) {w : World} {g : Nat} {l : List (α × Value)} (hg : MapK w g ok enc l) (x : α) (hx : ok x) (z : Value) (hz : (zeroValue et).run P w = .ok z w) (ck : Bool) :
    (lookup t (.map (some g)) (enc x) ck).run P w = .ok (if ck then .tuple #[(kget l x).getD z, .bool (kget l x).isSome] else (kget l x).getD z) w := by
  obtain ⟨es, c, hb, hs⟩ := hg
  have h1 := hk.check es.isEmpty x w hx
  have h2 := run_findKey_k hk x hx w hs
  have h0 : (getObj g).run P w = .ok (.map es c) w := MapKept.run_getObj_map hb
  unfold lookup kget
  cases hm : kfind l x 0 with
  | none => rw [hm] at h2; cases ck <;> simp [run_underlying ht, h0, h1, h2, hz, Result.andThen]
  | some p => rw [hm] at h2; cases ck <;> simp [run_underlying ht, h0, h1, h2, Result.andThen]
theorem Says.entry {es : Array MapEntry} {c : Nat} {l : List (α × Value)} (hs : Says ok enc es c l) {i : Nat} {p : α × Value} (h : l[i]? = some p) : ∃ e, es[i]? = some e ∧ e.key = enc p.1 ∧ e.val = p.2 := by
  have h1 := congrArg (·[i]?) hs.pairs
  simp only [List.getElem?_map, h, Option.map_some] at h1
  rw [Array.getElem?_toList] at h1
  cases he : es[i]? with
  | none => rw [he] at h1; simp at h1
  | some e =>
    rw [he] at h1
    simp only [Option.map_some, Option.some.injEq, Prod.mk.injEq] at h1
    exact ⟨e, rfl, h1.1, h1.2⟩
/-- An entry of the map is given its key anew, or a value. -/
theorem Says.modify {es : Array MapEntry} {c : Nat} {l : List (α × Value)} (hs : Says ok enc es c l) (i : Nat) (f : MapEntry → MapEntry) (q : α × Value) (hf : ∀ e, es[i]? = some e → (f e).key = enc q.1 ∧ (f e).val = q.2) (hb : ∀ e, (f e).born = e.born) (ho : ok q.1) :
    Says ok enc (es.modify i f) c (l.set i q) := by
  have hborn : (es.modify i f).toList.map (·.born) = es.toList.map (·.born) := by
    apply List.ext_getElem?
    intro j
    rw [Array.toList_modify, List.getElem?_map, List.getElem?_map, List.getElem?_modify]
    by_cases hij : i = j
    · subst hij; cases es.toList[i]? <;> simp [hb]
    · cases es.toList[j]? <;> simp [hij]
  refine ⟨?_, by rw [hborn]; exact hs.born, fun e he => ?_, fun p hp => ?_⟩
  · apply List.ext_getElem?
    intro j
    have h1 := congrArg (·[j]?) hs.pairs
    simp only [List.getElem?_map] at h1
    rw [List.getElem?_map, List.getElem?_map, Array.toList_modify, List.getElem?_modify, List.getElem?_set]
    by_cases hij : i = j
    · subst hij
      rw [if_pos rfl]
      cases he : es.toList[i]? with
      | none =>
        rw [he] at h1
        have h9 : l[i]? = none := by cases h : l[i]? with | none => rfl | some _ => rw [h] at h1; cases h1
        have : ¬ i < l.length := by rw [List.getElem?_eq_none_iff] at h9; omega
        rw [if_neg this]; rfl
      | some e =>
        rw [he] at h1
        have : i < l.length := by
          by_cases h : i < l.length
          · exact h
          · rw [List.getElem?_eq_none (by omega)] at h1; cases h1
        rw [if_pos this]
        obtain ⟨h2, h3⟩ := hf e (by rw [← Array.getElem?_toList]; exact he)
        simp [h2, h3]
    · rw [if_neg hij]
      cases he : es.toList[j]? with
      | none => rw [he] at h1; simpa [hij] using h1
      | some e => rw [he] at h1; simpa [hij] using h1
  · have hm : e.born ∈ (es.modify i f).toList.map (·.born) := List.mem_map.2 ⟨e, he, rfl⟩
    rw [hborn] at hm
    obtain ⟨e', he', hb'⟩ := List.mem_map.1 hm
    rw [← hb']; exact hs.old e' he'
  · rcases List.mem_or_eq_of_mem_set hp with h | h
    · exact hs.ok p h
    · rw [h]; exact ho
theorem Says.push {es : Array MapEntry} {c : Nat} {l : List (α × Value)} (hs : Says ok enc es c l) (x : α) (v : Value) (hx : ok x) : Says ok enc (es.push { key := enc x, val := v, born := c }) (c + 1) (l ++ [(x, v)]) := by
  refine ⟨?_, ?_, fun e he => ?_, fun p hp => ?_⟩
  · rw [Array.toList_push, List.map_append, List.map_append, hs.pairs]; rfl
  · rw [Array.toList_push, List.map_append]
    refine List.nodup_append.2 ⟨hs.born, by simp, fun a ha b hb => ?_⟩
    obtain ⟨e, he, rfl⟩ := List.mem_map.1 ha
    simp only [List.map_cons, List.map_nil, List.mem_singleton] at hb
    subst hb
    have := hs.old e he
    omega
  · rw [Array.toList_push, List.mem_append, List.mem_singleton] at he
    rcases he with he | rfl
    · have := hs.old e he; omega
    · exact Nat.lt_succ_self c
  · rw [List.mem_append, List.mem_singleton] at hp
    rcases hp with hp | rfl
    · exact hs.ok p hp
    · exact hx
theorem upd_heap {w : World} {g : Nat} (ob : Obj) : Upd g w { w with heap := w.heap.setIfInBounds g ob } := ⟨rfl, rfl, rfl, by simp, fun k hk => by simp [Ne.symm hk]⟩
theorem run_mapUpdate_k [DecidableEq α] (hk : KeyLaw P kt ok enc) (t et : TypeId) (ht : P.underlying t = some (.map kt et)) {w : World} {g : Nat} {l : List (α × Value)} (hg : MapK w g ok enc l) (x : α) (hx : ok x) (v : Value) :
    ∃ w', (mapUpdate t (.map (some g)) (enc x) v).run P w = .ok () w' ∧ MapK w' g ok enc (kput l x v) ∧ Upd g w w' := by
  obtain ⟨es, c, hb, hs⟩ := hg
  have h1 := hk.check false x w hx
  have h2 := run_findKey_k hk x hx w hs
  have h0 : (getObj g).run P w = .ok (.map es c) w := MapKept.run_getObj_map hb
  have hst : ∀ ob, (setObj g ob).run P w = .ok () { w with heap := w.heap.setIfInBounds g ob } := fun ob => MapKept.run_setObj_map ob hb
  unfold mapUpdate kput
  cases hm : kfind l x 0 with
  | none =>
    rw [hm] at h2
    simp only [Sem.run_bind, run_underlying ht, Result.andThen_ok, h0, h1, h2, hst]
    exact ⟨_, rfl, ⟨_, _, (heap_set hb).1, hs.push x v hx⟩, upd_heap _⟩
  | some p =>
    obtain ⟨i, v0⟩ := p
    have h3 := (kfind_lt l 0 i v0 hm).2
    rw [Nat.sub_zero] at h3
    obtain ⟨e, he, hke, _⟩ := hs.entry h3
    have h5 : ((es[i]?).map (·.key)).getD (enc x) = enc x := by rw [he]; exact hke
    rw [hm] at h2
    simp only [Sem.run_bind, run_underlying ht, Result.andThen_ok, h0, h1, h2, h5, keyThatStays, hk.bits x hx, if_true, Sem.run_pure, hst]
    exact ⟨_, rfl, ⟨_, _, (heap_set hb).1, hs.modify i _ (x, v) (fun _ _ => ⟨rfl, rfl⟩) (fun _ => rfl) hx⟩, upd_heap _⟩
theorem run_mapEntry_k [DecidableEq α] (hk : KeyLaw P kt ok enc) (t et : TypeId) (ht : P.underlying t = some (.map kt et)) {w : World} {g : Nat} {l : List (α × Value)} (hg : MapK w g ok enc l) (x : α) (hx : ok x) (z : Value) (hz : (zeroValue et).run P w = .ok z w) :
    ∃ w' b, (mapEntry t (.map (some g)) (enc x)).run P w = .ok (.tuple #[(kget l x).getD z, .int .i64 b]) w' ∧ MapS w' g ok enc (kask l x z) b (kat l x) ∧ Upd g w w' := by
  obtain ⟨es, c, hb, hs⟩ := hg
  have h1 := hk.check false x w hx
  have h2 := run_findKey_k hk x hx w hs
  have h0 : (getObj g).run P w = .ok (.map es c) w := MapKept.run_getObj_map hb
  have hst : ∀ ob, (setObj g ob).run P w = .ok () { w with heap := w.heap.setIfInBounds g ob } := fun ob => MapKept.run_setObj_map ob hb
  have hlen : es.size = l.length := by have := congrArg List.length hs.pairs; simpa using this
  unfold mapEntry kask kat kget
  cases hm : kfind l x 0 with
  | none =>
    rw [hm] at h2
    simp only [Sem.run_bind, run_underlying ht, Result.andThen_ok, h0, h1, h2, hz, hst, Sem.run_pure]
    refine ⟨_, _, rfl, ⟨_, _, (heap_set hb).1, hs.push x z hx, { key := enc x, val := z, born := c }, ?_, rfl⟩, upd_heap _⟩
    rw [← hlen, Array.getElem?_push_size]
  | some p =>
    obtain ⟨i, v0⟩ := p
    have h3 := (kfind_lt l 0 i v0 hm).2
    rw [Nat.sub_zero] at h3
    obtain ⟨e, he, hke, hve⟩ := hs.entry h3
    have h5 : ((es[i]?).map (·.key)).getD (enc x) = enc x := by rw [he]; exact hke
    rw [hm] at h2
    simp only [Sem.run_bind, run_underlying ht, Result.andThen_ok, h0, h1, h2, h5, keyThatStays, hk.bits x hx, if_true, Sem.run_pure, hst]
    refine ⟨_, _, rfl, ⟨_, _, (heap_set hb).1, ?_, { e with key := enc x }, ?_, ?_⟩, upd_heap _⟩
    · have h := hs.modify i (fun e => { e with key := enc x }) (x, v0) (fun e' he' => by rw [he] at he'; injection he' with he'; exact ⟨rfl, by rw [← he']; exact hve⟩) (fun _ => rfl) hx
      have e2 : l.set i (x, v0) = l := by
        rw [List.getElem?_eq_some_iff] at h3
        obtain ⟨hlt, h3⟩ := h3
        rw [← h3]; exact List.set_getElem_self hlt
      rw [e2] at h; exact h
    · rw [Array.getElem?_modify, if_pos rfl, he]; rfl
    · show (e.born : Int) = _
      rw [he]; rfl
theorem run_entryStore_k [DecidableEq α] (t : TypeId) {w : World} {g : Nat} {l : List (α × Value)} {b : Int} {i : Nat} (hg : MapS w g ok enc l b i) (x : α) (v0 : Value) (hi : l[i]? = some (x, v0)) (v : Value) :
    ∃ w', (entryStore t (.map (some g)) (.int .i64 b) v).run P w = .ok () w' ∧ MapK w' g ok enc (l.set i (x, v)) ∧ Upd g w w' := by
  obtain ⟨es, c, hb, hs, e, he, hbe⟩ := hg
  have h0 : (getObj g).run P w = .ok (.map es c) w := MapKept.run_getObj_map hb
  have hst : ∀ ob, (setObj g ob).run P w = .ok () { w with heap := w.heap.setIfInBounds g ob } := fun ob => MapKept.run_setObj_map ob hb
  obtain ⟨e', he', hke, hve⟩ := hs.entry hi
  rw [he] at he'
  injection he' with he'
  subst he'
  have hfind : es.findIdx? (fun e => (e.born : Int) == b) = some i := by
    obtain ⟨hlt, hee⟩ := Array.getElem?_eq_some_iff.1 he
    rw [Array.findIdx?_eq_some_iff_getElem]
    refine ⟨hlt, by rw [hee]; simpa using hbe, fun j hji => ?_⟩
    have hjl : j < es.size := by omega
    intro hj
    have hj' : (es[j].born : Int) = b := by simpa using hj
    have hn := List.pairwise_iff_getElem.1 hs.born j i (by simpa using hjl) (by simpa using hlt) hji
    apply hn
    simp only [List.getElem_map, Array.getElem_toList, hee]
    omega
  unfold entryStore
  simp only [Sem.run_bind, Result.andThen_ok, h0, asInt, asIntOf, Sem.run_pure]
  rw [hfind]
  simp only [hst]
  exact ⟨_, rfl, ⟨_, _, (heap_set hb).1, hs.modify i _ (x, v) (fun e' he' => by rw [he] at he'; injection he' with he'; exact ⟨by rw [← he']; exact hke, rfl⟩) (fun _ => rfl) (show ok x from hs.ok (x, v0) (List.mem_of_getElem? hi))⟩, upd_heap _⟩
end
end Go

/- A range over a function that yields a fixed row of items; the state ahead of each round is known to the function, too. Plain facts over any program. No condition. -/
namespace Go
open Go.RowKit
section
variable {F : Fence} {n : Nat} {P : Program}
/-- The function's part: whoever calls keeps I, from round to round; then all N items are yielded, or the caller stops. -/
def RowOf (F : Fence) (n : Nat) (P : Program) (gf : Nat) (lb : Array Value) (encs : Nat → Array Value) (I : Nat → World → Prop) (N : Nat) : Prop :=
  ∀ (l : Nat) (J : Nat → World → Prop) (Jx : World → Prop) (W : World), (∀ k W, J k W → I k W) → (∀ k W W', J k W → Below W.heap.size W W' → J k W') → (∀ W W', Jx W → Below W.heap.size W W' → Jx W') →
    (∀ k W, J k W → k < N → YieldAt F (n - 1) P l (encs k) W fun e W' => (e = .returned (.bool true) ∧ J (k + 1) W') ∨ (e = .returned (.bool false) ∧ Jx W')) →
    J 0 W → CallsIn F n P gf (#[.func (.yield l) #[] #[]] ++ lb) W fun e W' => (∃ v, e = .returned v) ∧ (J N W' ∨ Jx W')
/-- How a round's body may end. -/
def rowPost (B : Nat) (I : World → Prop) (Ix : Code → World → Prop) (W : World) : Exit → Act → World → Prop
  | .normal, _, W' => KeepsFrom B W W' ∧ I W'
  | .ret, _, W' => KeepsFrom B W W' ∧ Ix .ret W'
  | .exit i, _, W' => KeepsFrom B W W' ∧ Ix (.exit i) W'
  | .goto t, _, W' => KeepsFrom B W W' ∧ Ix (.goto t) W'
  | .panic _, _, _ => False
  | .outgrown, _, _ => False
theorem KeepsFrom.near {B : Nat} {X : List Nat} {W W' : World} (h : Near X W W') (hX : ∀ x ∈ X, x < B) : KeepsFrom B W W' :=
  ⟨h.size, fun k _ hB hk _ => (h.block k (Array.getElem?_eq_some_iff.1 hk).1 (fun e => by have := hX k e; omega)).trans hk⟩
theorem KeepsFrom.below {B : Nat} {W W' : World} (h : Below W.heap.size W W') : KeepsFrom B W W' :=
  ⟨h.size, fun k _ _ hk _ => (h.block k (Array.getElem?_eq_some_iff.1 hk).1).trans hk⟩
theorem putObj_near (W : World) (l : Nat) (o : Obj) : Near [l] W (W.putObj l o) :=
  ⟨rfl, rfl, rfl, by simp [World.putObj], fun k _ hn => World.putObj_heap_other (fun e => hn (by rw [e]; exact List.mem_singleton_self _))⟩
theorem putObj_below {B : Nat} (W : World) (l : Nat) (o : Obj) (hB : B ≤ l) (hs : B ≤ W.heap.size) : Below B W (W.putObj l o) :=
  (putObj_near W l o).toBelow (fun x hx => by rw [List.mem_singleton.1 hx]; exact hB) hs
/-- What lay below B, and all cells, lie as they lay. -/
structure Kept (B : Nat) (W W' : World) : Prop where
  os : W'.os = W.os
  tape : W'.tape = W.tape
  output : W'.output = W.output
  size : W.heap.size ≤ W'.heap.size
  low : ∀ j, j < B → j < W.heap.size → W'.heap[j]? = W.heap[j]?
  cells : ∀ (j : Nat) (o : Obj), W.heap[j]? = some o → o.isCells = true → W'.heap[j]? = some o
theorem Kept.below {B : Nat} {W W' : World} (h : Below W.heap.size W W') : Kept B W W' :=
  ⟨h.os, h.tape, h.output, h.size, fun j _ hj => h.block j hj, fun j _ hj _ => (h.block j (Array.getElem?_eq_some_iff.1 hj).1).trans hj⟩
theorem Kept.put {B : Nat} {W : World} {l : Nat} {o o' : Obj} (hB : B ≤ l) (hl : W.heap[l]? = some o') (ho : o'.isCells = false) : Kept B W (W.putObj l o) :=
  ⟨rfl, rfl, rfl, by simp [World.putObj], fun j hj _ => World.putObj_heap_other (by omega), fun j o2 hj h2 => by
    by_cases e : j = l
    · subst e; rw [hl] at hj; injection hj with hj; subst hj; rw [ho] at h2; cases h2
    · exact (World.putObj_heap_other e).trans hj⟩
theorem Blk.keptW {B : Nat} {W W' : World} {g : Nat} {t : TypeId} {cs : Array Value} (h : Blk W g t cs) (k : Kept B W W') : Blk W' g t cs := k.cells g _ h rfl
theorem MapB.keptW {B : Nat} {W W' : World} {g : Nat} {es : Array MapEntry} {c : Nat} (h : MapB W g es c) (k : Kept B W W') (hg : g < B) : MapB W' g es c := (k.low g hg h.lt).trans h
theorem Kept.cell {B : Nat} {W W' : World} (k : Kept B W W') {p : Addr} {v : Value} (h : W.cell? p = some v) : W'.cell? p = some v := by
  unfold World.cell? at h ⊢
  split at h
  · rename_i cs t e
    rw [k.cells _ _ e rfl]; exact h
  · cases h
theorem Near.keptW {B : Nat} {X : List Nat} {w W W' : World} (h : Near X w W) (k : Kept B W W') (hB : w.heap.size ≤ B) : Near X w W' :=
  ⟨k.os.trans h.os, k.tape.trans h.tape, k.output.trans h.output, Nat.le_trans h.size k.size, fun j hj hn => (k.low j (by omega) (Nat.lt_of_lt_of_le hj h.size)).trans (h.block j hj hn)⟩
theorem Near.high {X Y : List Nat} {w W W' : World} (h : Near X w W) (k : Near Y W W') (hY : ∀ y ∈ Y, w.heap.size ≤ y) : Near X w W' :=
  ⟨k.os.trans h.os, k.tape.trans h.tape, k.output.trans h.output, Nat.le_trans h.size k.size, fun j hj hn => (k.block j (Nat.lt_of_lt_of_le hj h.size) (fun hx => by have := hY j hx; omega)).trans (h.block j hj hn)⟩
theorem Reads.keptW {B : Nat} {W W' : World} {A : Option Addr} {xs : List Value} (h : Reads W A xs) (k : Kept B W W') : Reads W' A xs := fun hn => by
  obtain ⟨b, off, e, hc⟩ := h hn
  exact ⟨b, off, e, fun j v hv => k.cell (hc j v hv)⟩
theorem wpIn_rangeRow {g : Operand} {ps : Array Tmp} {assign body : Code} {Q : Exit → Act → World → Prop} {a : Act} {w : World}
    (hro : F.round = none) (h1 : 1 ≤ n) {gf : Nat} {lb : Array Value} (hg : a.eval g = .func (.func gf) #[] lb) (hFg : F.fn gf) (eg : ∀ args w, (callFunc gf args).run P w = .ok (.enter gf args) w)
    (encs : Nat → Array Value) (hps : ∀ k, (encs k).size = ps.size) (N : Nat) (I : Nat → World → Prop) (Ix : Code → World → Prop)
    (hI : ∀ k W W', I k W → Kept w.heap.size W W' → I k W') (hIx : ∀ c W W', Ix c W → Kept w.heap.size W W' → Ix c W') (h0 : I 0 w)
    (hrow : RowOf F (n - 1) P gf lb encs I N)
    (hround : ∀ l k W, w.heap.size ≤ l → l < W.heap.size → I k W → k < N → assign.wpIn (F.inRound l) (n - 1 - 1) P
      (Exit.then (fun a₁ W₁ => Below W.heap.size W W₁ ∧ ∀ W₂, Kept w.heap.size W₁ W₂ → body.wpIn (F.inRound l) (n - 1 - 1) P (rowPost w.heap.size (I (k + 1)) Ix W₂) a₁ W₂) (fun _ _ _ => False))
      { tmps := (ps.zip (encs k)).foldl (fun t (p, v) => t.setIfInBounds p v) a.tmps, defers := [] } W)
    (hdone : ∀ D W, w.heap.size ≤ D → I N W → W.heap[D]? = some (.deferred (some [])) → Q .normal { a with defers := { target := .collected D, args := #[] } :: a.defers } W)
    (hstop : ∀ D c W, w.heap.size ≤ D → Ix c W → W.heap[D]? = some (.deferred (some [])) → c.wpIn F n P Q { a with defers := { target := .collected D, args := #[] } :: a.defers } W) :
    (Code.rangeFunc g ps assign body).wpIn F n P Q a w := by
  refine wpIn_rangeFunc fun fn hfn => ?_
  rw [hro]
  -- the loop's record, in a state; the two blocks that the loop lays
  let R : LoopState → Option Code → Obj := fun st pe => .loop { state := st, pending := pe, fn, tmps := a.tmps, params := ps, assign, body, defers := w.heap.size }
  let D := w.heap.size
  let l := w.heap.size + 1
  -- what the loop needs of a world, beside the caller's own
  let Bk : LoopState → Option Code → World → Prop := fun st pe W => W.heap[l]? = some (R st pe) ∧ W.heap[D]? = some (.deferred (some []))
  have bklt : ∀ {st pe W}, Bk st pe W → l < W.heap.size := fun h => (Array.getElem?_eq_some_iff.1 h.1).1
  have bkput : ∀ {st pe W} st' pe', Bk st pe W → Bk st' pe' (W.putObj l (R st' pe')) := fun st' pe' h =>
    ⟨World.putObj_heap_same (bklt h), (World.putObj_heap_other (by show D ≠ l; omega)).trans h.2⟩
  have bkput' : ∀ {st pe W} (o : Obj), Bk st pe W → (W.putObj l o).heap[D]? = some (.deferred (some [])) := fun o h => (World.putObj_heap_other (by show D ≠ l; omega)).trans h.2
  have bkbel : ∀ {st pe W W'}, Bk st pe W → Below W.heap.size W W' → Bk st pe W' := fun h k =>
    ⟨(k.block _ (bklt h)).trans h.1, (k.block _ (by have := bklt h; omega)).trans h.2⟩
  have low : ∀ {st pe W}, Bk st pe W → w.heap.size ≤ W.heap.size := fun h => by have := bklt h; omega
  have put : ∀ {st pe W} (o : Obj), Bk st pe W → Kept w.heap.size W (W.putObj l o) := fun o h => Kept.put (by show D ≤ l; omega) h.1 rfl
  -- the world behind the loop's entry
  let W1 := (w.alloc (.deferred (some []))).alloc (R .ready none)
  have e1 : Below w.heap.size w W1 := ((Below.refl _ w).alloc (Nat.le_refl _) _).alloc (by simp) _
  have b1 : Bk .ready none W1 := by
    refine ⟨?_, ?_⟩
    · have h := World.alloc_heap_new (w.alloc (.deferred (some []))) (R .ready none)
      rwa [World.size_alloc] at h
    · exact (Below.heap_alloc _ _ _ (by rw [World.size_alloc]; exact Nat.lt_succ_self _)).trans (World.alloc_heap_new w _)
  refine ⟨l, [{ target := .collected D, args := #[] }], W1, { target := .fn (.func gf) lb, args := #[.func (.yield l) #[] #[]] }, W1, gf, #[.func (.yield l) #[] #[]] ++ lb, W1,
    run_enterLoop_outer _ _ _ _ _, ?_, ?_, ?_, fun _ => h1, ?_⟩
  · simp only [resolve, hg]
    simp [go_sem]
  · intro f' hf'
    simp [Target.leads] at hf'
    exact hf' ▸ hFg
  · simp [invoke, go_sem, eg]
  refine (hrow l (fun k W => I k W ∧ Bk .ready none W) (fun W => ∃ c, Ix c W ∧ Bk .done (some c) W) W1 (fun _ _ h => h.1)
    (fun k W W' h b => ⟨hI k W W' h.1 (Kept.below b), bkbel h.2 b⟩) (fun W W' h b => by obtain ⟨c, hc, hb⟩ := h; exact ⟨c, hIx c W W' hc (Kept.below b), bkbel hb b⟩) ?_ ⟨hI 0 w W1 h0 (Kept.below e1), b1⟩).mono ?_
  · -- a round
    rintro k W ⟨hi, hb⟩ hk
    refine ⟨fn, _, assign, body, run_yield hb.1 (hps k), roundIn_of_wpIn hfn ?_⟩
    refine wpIn_mono (hround l k W (by show D ≤ l; omega) (bklt hb) hi hk) ?_
    rintro e a1 W2 he
    cases e
    case normal =>
      obtain ⟨hB, hbody⟩ := he
      have hb2 := bkbel hb hB
      refine ⟨_, run_beginRound hb2.1 rfl, ?_⟩
      have hb3 := bkput .busy none hb2
      refine wpIn_mono (hbody _ (Kept.put (by show D ≤ l; omega) hb2.1 rfl)) ?_
      rintro e3 a3 W4 hp
      have fin : KeepsFrom w.heap.size (W2.putObj l (R .busy none)) W4 → Bk .busy none W4 := fun hkf => ⟨hkf.same _ _ (by show D ≤ l; omega) hb3.1 rfl, hkf.same _ _ (Nat.le_refl _) hb3.2 rfl⟩
      cases e3 with
      | normal =>
        have hb4 := fin hp.1
        exact ⟨_, _, run_endRound none hb4.1, .inl ⟨rfl, hI _ _ _ hp.2 (put _ hb4), bkput .ready none hb4⟩⟩
      | ret =>
        have hb4 := fin hp.1
        exact ⟨_, _, run_endRound (some .ret) hb4.1, .inr ⟨rfl, .ret, hIx _ _ _ hp.2 (put _ hb4), bkput .done (some .ret) hb4⟩⟩
      | exit i =>
        have hb4 := fin hp.1
        exact ⟨_, _, run_endRound (some (.exit i)) hb4.1, .inr ⟨rfl, .exit i, hIx _ _ _ hp.2 (put _ hb4), bkput .done (some (.exit i)) hb4⟩⟩
      | goto t =>
        have hb4 := fin hp.1
        exact ⟨_, _, run_endRound (some (.goto t)) hb4.1, .inr ⟨rfl, .goto t, hIx _ _ _ hp.2 (put _ hb4), bkput .done (some (.goto t)) hb4⟩⟩
      | panic ch => exact hp.elim
      | outgrown => exact hp.elim
    all_goals exact he.elim
  · -- behind the function
    rintro e W2 ⟨⟨v, rfl⟩, (⟨hi, hb⟩ | ⟨c, hc, hb⟩)⟩
    · exact ⟨none, _, run_endLoop hb.1 (by simp), hdone D _ (Nat.le_refl _) (hI _ _ _ hi (put _ hb)) (bkput' _ hb)⟩
    · exact ⟨some c, _, run_endLoop hb.1 (by simp), hstop D c _ (Nat.le_refl _) (hIx _ _ _ hc (put _ hb)) (bkput' _ hb)⟩
end
end Go

/- Maps keyed by arrays or structs: the walk's arms. Plain facts over any program. No condition. -/
namespace Go
open Go.RowKit Go.Instr
section
variable {α : Type} {P : Program} {kt : TypeId} {ok : α → Prop} {enc : α → Value}
variable {w : World} {ops : Array Oper} {rest : List Oper} {o : Oper} {a : Act} {Q : Exit → Act → World → Prop}
theorem wpList_lookup_k [DecidableEq α] (hgd : o.guard = none) (hk : KeyLaw P kt ok enc) (t et : TypeId) (m k : Operand) (ck : Bool) (ho : o.op = .lookup t m k ck) (ht : P.underlying t = some (.map kt et)) {g : Nat} {l : List (α × Value)} (hg : MapK w g ok enc l)
    (x : α) (hx : ok x) (z : Value) (hz : (zeroValue et).run P w = .ok z w) (hm : a.eval m = .map (some g)) (he : a.eval k = enc x)
    (h : wpList P ops Q rest (a.put o.dst (if ck then .tuple #[(kget l x).getD z, .bool (kget l x).isSome] else (kget l x).getD z)) w) : wpList P ops Q (o :: rest) a w :=
  wpList_run _ hgd (by unfold execOp; simp only [ho, hm, he, run_lookup_k hk t et ht hg x hx z hz ck, Sem.run_bind, Result.andThen_ok, Sem.run_pure]) h
theorem wpList_mapUpdate_k [DecidableEq α] (hgd : o.guard = none) (hk : KeyLaw P kt ok enc) (t et : TypeId) (m k y : Operand) (ho : o.op = .mapUpdate t m k y) (ht : P.underlying t = some (.map kt et)) {g : Nat} {l : List (α × Value)} (hg : MapK w g ok enc l)
    (x : α) (hx : ok x) (v : Value) (hm : a.eval m = .map (some g)) (he : a.eval k = enc x) (hy : a.eval y = v)
    (h : ∀ w', MapK w' g ok enc (kput l x v) → Upd g w w' → wpList P ops Q rest (a.put o.dst undef) w') : wpList P ops Q (o :: rest) a w := by
  obtain ⟨w', h1, h2, h3⟩ := run_mapUpdate_k hk t et ht hg x hx v
  refine wpList_plain hgd fun _ hK => ?_
  unfold Oper.wp execOp
  simp only [ho, hm, he, hy, h1, Sem.run_bind, Sem.run_pure, Result.andThen_ok]
  exact hK _ _ (h w' h2 h3)
theorem wpList_mapEntry_k [DecidableEq α] (hgd : o.guard = none) (hk : KeyLaw P kt ok enc) (t et : TypeId) (m k : Operand) (ho : o.op = .mapEntry t m k) (ht : P.underlying t = some (.map kt et)) {g : Nat} {l : List (α × Value)} (hg : MapK w g ok enc l)
    (x : α) (hx : ok x) (z : Value) (hz : (zeroValue et).run P w = .ok z w) (hm : a.eval m = .map (some g)) (he : a.eval k = enc x)
    (h : ∀ w' b, MapS w' g ok enc (kask l x z) b (kat l x) → Upd g w w' → wpList P ops Q rest (a.put o.dst (.tuple #[(kget l x).getD z, .int .i64 b])) w') : wpList P ops Q (o :: rest) a w := by
  obtain ⟨w', b, h1, h2, h3⟩ := run_mapEntry_k hk t et ht hg x hx z hz
  refine wpList_plain hgd fun _ hK => ?_
  unfold Oper.wp execOp
  simp only [ho, hm, he, h1, Sem.run_bind, Sem.run_pure, Result.andThen_ok]
  exact hK _ _ (h w' b h2 h3)
theorem wpList_entryStore_k [DecidableEq α] (hgd : o.guard = none) (t : TypeId) (m s y : Operand) (ho : o.op = .entryStore t m s y) {g : Nat} {l : List (α × Value)} {b : Int} {x : α} {z : Value} (hg : MapS w g ok enc (kask l x z) b (kat l x))
    (v : Value) (hm : a.eval m = .map (some g)) (hs : a.eval s = .int .i64 b) (hy : a.eval y = v)
    (h : ∀ w', MapK w' g ok enc (kput l x v) → Upd g w w' → wpList P ops Q rest (a.put o.dst undef) w') : wpList P ops Q (o :: rest) a w := by
  obtain ⟨v0, hv0⟩ := kask_at l x z
  obtain ⟨w', h1, h2, h3⟩ := run_entryStore_k (P := P) t hg x v0 hv0 v
  rw [kask_set] at h2
  refine wpList_plain hgd fun _ hK => ?_
  unfold Oper.wp execOp
  simp only [ho, hm, hs, hy, h1, Sem.run_bind, Sem.run_pure, Result.andThen_ok]
  exact hK _ _ (h w' h2 h3)
theorem MapK.keptW {B : Nat} {W W' : World} {g : Nat} {l : List (α × Value)} (h : MapK W g ok enc l) (k : Kept B W W') (hg : g < B) : MapK W' g ok enc l := by obtain ⟨es, c, h1, h2⟩ := h; exact ⟨es, c, h1.keptW k hg, h2⟩
end
end Go

/- Maps keyed by arrays or structs: an entry is deleted. Plain facts over any program. No condition. -/
namespace Go
open Go.RowKit Go.Instr Go.MapKept
section
variable {α : Type} {P : Program} {kt : TypeId} {ok : α → Prop} {enc : α → Value}
theorem eraseIdx_map' {β γ : Type} (f : β → γ) : ∀ (l : List β) (i : Nat), (l.map f).eraseIdx i = (l.eraseIdx i).map f
  | [], _ => by simp
  | x :: l, 0 => by simp
  | x :: l, i + 1 => by simp [eraseIdx_map' f l i]
def kdel [DecidableEq α] (l : List (α × Value)) (x : α) : List (α × Value) := match kfind l x 0 with | some p => l.eraseIdx p.1 | none => l
theorem kdel_cons [DecidableEq α] {p : α × Value} {l : List (α × Value)} {x : α} : kdel (p :: l) x = if x = p.1 then l else p :: kdel l x := by
  unfold kdel
  rw [kfind]
  by_cases h : x = p.1
  · rw [if_pos h, if_pos h]; rfl
  · rw [if_neg h, if_neg h, kfind_shift]
    cases kfind l x 0 with
    | none => rfl
    | some q => rfl
theorem Says.erase {es : Array MapEntry} {c : Nat} {l : List (α × Value)} (hs : Says ok enc es c l) (i : Nat) : Says ok enc (es.eraseIdxIfInBounds i) c (l.eraseIdx i) := by
  have e : (es.eraseIdxIfInBounds i).toList = es.toList.eraseIdx i := by
    rw [Array.eraseIdxIfInBounds]
    split
    · simp
    · rename_i h
      rw [List.eraseIdx_of_length_le (by simpa using h)]
  refine ⟨?_, ?_, ?_, fun p hp => hs.ok p (List.mem_of_mem_eraseIdx hp)⟩
  · rw [e, ← eraseIdx_map', hs.pairs, eraseIdx_map']
  · rw [e, ← eraseIdx_map']
    exact (List.eraseIdx_sublist _ _).nodup hs.born
  · intro x hx
    rw [e] at hx
    exact hs.old x (List.mem_of_mem_eraseIdx hx)
theorem run_delete_k [DecidableEq α] (hk : KeyLaw P kt ok enc) (t tk ty et : TypeId) (ht : P.underlying t = some (.map kt et)) {w : World} {g : Nat} {l : List (α × Value)} (hg : MapK w g ok enc l) (x : α) (hx : ok x) :
    ∃ w', (Builtin.delete_ #[t, tk] ty #[.map (some g), enc x]).run P w = .ok (.tuple #[]) w' ∧ MapK w' g ok enc (kdel l x) ∧ Upd g w w' := by
  obtain ⟨es, c, hb, hs⟩ := hg
  have h1 := hk.check es.isEmpty x w hx
  have h2 := run_findKey_k hk x hx w hs
  have h0 : (getObj g).run P w = .ok (.map es c) w := MapKept.run_getObj_map hb
  have hst : ∀ ob, (setObj g ob).run P w = .ok () { w with heap := w.heap.setIfInBounds g ob } := fun ob => MapKept.run_setObj_map ob hb
  unfold Builtin.delete_ kdel
  cases hm : kfind l x 0 with
  | none =>
    rw [hm] at h2
    simp only [List.getElem?_toArray, List.getElem?_cons_zero, List.getElem?_cons_succ, Sem.run_bind, run_underlying ht, Result.andThen_ok, h0, h1, h2, hst, Sem.run_pure]
    exact ⟨_, rfl, ⟨_, _, (heap_set hb).1, hs⟩, upd_heap _⟩
  | some p =>
    obtain ⟨i, v0⟩ := p
    rw [hm] at h2
    simp only [List.getElem?_toArray, List.getElem?_cons_zero, List.getElem?_cons_succ, Sem.run_bind, run_underlying ht, Result.andThen_ok, h0, h1, h2, hst, Sem.run_pure]
    exact ⟨_, rfl, ⟨_, _, (heap_set hb).1, hs.erase i⟩, upd_heap _⟩
variable {w : World} {ops : Array Oper} {rest : List Oper} {o : Oper} {a : Act} {Q : Exit → Act → World → Prop}
theorem wpList_delete_k [DecidableEq α] (hgd : o.guard = none) (hk : KeyLaw P kt ok enc) (t tk et : TypeId) (m k : Operand) (ho : o.op = .call { callee := .builtin .delete, args := #[m, k], argTypes := #[t, tk] }) (ht : P.underlying t = some (.map kt et)) {g : Nat} {l : List (α × Value)} (hg : MapK w g ok enc l)
    (x : α) (hx : ok x) (hm : a.eval m = .map (some g)) (he : a.eval k = enc x)
    (h : ∀ w', MapK w' g ok enc (kdel l x) → Upd g w w' → wpList P ops Q rest (a.put o.dst (.tuple #[])) w') : wpList P ops Q (o :: rest) a w := by
  obtain ⟨w', h1, h2, h3⟩ := run_delete_k (P := P) hk t tk o.type et ht hg x hx
  refine wpList_plain hgd fun _ hK => ?_
  unfold Oper.wp execOp
  simp only [ho, resolve, invoke, builtin, Sem.run_bind, Sem.run_pure, Result.andThen_ok, List.map_toArray, List.map_cons, List.map_nil, hm, he, h1]
  exact hK _ _ (h w' h2 h3)
end
end Go

/- The first 16 bytes of SHA-256, as plain Lean functions over UInt32 and lists of bytes, with no program in sight. No condition. -/
namespace Sha

structure St where
  a : UInt32
  b : UInt32
  c : UInt32
  d : UInt32
  e : UInt32
  f : UInt32
  g : UInt32
  h : UInt32
  deriving DecidableEq

def rotr (x : UInt32) (n : Nat) : UInt32 := (x >>> UInt32.ofNat n) ||| (x <<< UInt32.ofNat (32 - n))
def s0 (x : UInt32) : UInt32 := rotr x 7 ^^^ rotr x 18 ^^^ (x >>> 3)
def s1 (x : UInt32) : UInt32 := rotr x 17 ^^^ rotr x 19 ^^^ (x >>> 10)
/-- the next word, the words so far standing in a list, the newest first -/
def next (l : List UInt32) : UInt32 := s1 (l.getD 1 0) + l.getD 6 0 + s0 (l.getD 14 0) + l.getD 15 0
def step (m : Nat → UInt32) (t : Nat) (l : List UInt32) : List UInt32 := (if t < 16 then m t else next l) :: l
def ws (m : Nat → UInt32) : Nat → List UInt32
  | 0 => []
  | t + 1 => step m t (ws m t)
/-- word number t -/
def wd (m : Nat → UInt32) (t : Nat) : UInt32 := (ws m (t + 1)).getD 0 0

theorem ws_length (m : Nat → UInt32) : ∀ t, (ws m t).length = t
  | 0 => rfl
  | t + 1 => by simp [ws, step, ws_length m t]
theorem ws_get (m : Nat → UInt32) : ∀ (t i : Nat), i < t → (ws m t).getD (t - 1 - i) 0 = wd m i
  | 0, i, h => by omega
  | t + 1, i, h => by
    by_cases e : i = t
    · subst e
      simp [wd]
    · have := ws_get m t i (by omega)
      have e2 : t + 1 - 1 - i = (t - 1 - i) + 1 := by omega
      rw [e2]
      simp only [ws, step, List.getD_cons_succ]
      exact this
theorem wd_lo (m : Nat → UInt32) {t : Nat} (h : t < 16) : wd m t = m t := by simp [wd, ws, step, h]
theorem wd_hi (m : Nat → UInt32) {t : Nat} (h : 16 ≤ t) : wd m t = s1 (wd m (t - 2)) + wd m (t - 7) + s0 (wd m (t - 15)) + wd m (t - 16) := by
  have h1 := ws_get m t (t - 2) (by omega)
  have h2 := ws_get m t (t - 7) (by omega)
  have h3 := ws_get m t (t - 15) (by omega)
  have h4 := ws_get m t (t - 16) (by omega)
  rw [show t - 1 - (t - 2) = 1 by omega] at h1
  rw [show t - 1 - (t - 7) = 6 by omega] at h2
  rw [show t - 1 - (t - 15) = 14 by omega] at h3
  rw [show t - 1 - (t - 16) = 15 by omega] at h4
  rw [← h1, ← h2, ← h3, ← h4]
  simp [wd, ws, step, next, show ¬ t < 16 by omega]

def t1 (k w : UInt32) (s : St) : UInt32 := s.h + (rotr s.e 6 ^^^ rotr s.e 11 ^^^ rotr s.e 25) + ((s.e &&& s.f) ^^^ (~~~s.e &&& s.g)) + k + w
def t2 (s : St) : UInt32 := (rotr s.a 2 ^^^ rotr s.a 13 ^^^ rotr s.a 22) + ((s.a &&& s.b) ^^^ (s.a &&& s.c) ^^^ (s.b &&& s.c))
def round (k w : UInt32) (s : St) : St := ⟨t1 k w s + t2 s, s.a, s.b, s.c, s.d + t1 k w s, s.e, s.f, s.g⟩

def kl : List UInt32 := [
  0x428a2f98, 0x71374491, 0xb5c0fbcf, 0xe9b5dba5, 0x3956c25b, 0x59f111f1, 0x923f82a4, 0xab1c5ed5,
  0xd807aa98, 0x12835b01, 0x243185be, 0x550c7dc3, 0x72be5d74, 0x80deb1fe, 0x9bdc06a7, 0xc19bf174,
  0xe49b69c1, 0xefbe4786, 0x0fc19dc6, 0x240ca1cc, 0x2de92c6f, 0x4a7484aa, 0x5cb0a9dc, 0x76f988da,
  0x983e5152, 0xa831c66d, 0xb00327c8, 0xbf597fc7, 0xc6e00bf3, 0xd5a79147, 0x06ca6351, 0x14292967,
  0x27b70a85, 0x2e1b2138, 0x4d2c6dfc, 0x53380d13, 0x650a7354, 0x766a0abb, 0x81c2c92e, 0x92722c85,
  0xa2bfe8a1, 0xa81a664b, 0xc24b8b70, 0xc76c51a3, 0xd192e819, 0xd6990624, 0xf40e3585, 0x106aa070,
  0x19a4c116, 0x1e376c08, 0x2748774c, 0x34b0bcb5, 0x391c0cb3, 0x4ed8aa4a, 0x5b9cca4f, 0x682e6ff3,
  0x748f82ee, 0x78a5636f, 0x84c87814, 0x8cc70208, 0x90befffa, 0xa4506ceb, 0xbef9a3f7, 0xc67178f2]
def kt (t : Nat) : UInt32 := kl.getD t 0
def init : St := ⟨0x6a09e667, 0xbb67ae85, 0x3c6ef372, 0xa54ff53a, 0x510e527f, 0x9b05688c, 0x1f83d9ab, 0x5be0cd19⟩

/-- behind t rounds -/
def rounds (m : Nat → UInt32) (s : St) : Nat → St
  | 0 => s
  | t + 1 => round (kt t) (wd m t) (rounds m s t)
def add (s x : St) : St := ⟨s.a + x.a, s.b + x.b, s.c + x.c, s.d + x.d, s.e + x.e, s.f + x.f, s.g + x.g, s.h + x.h⟩
def be (a b c d : UInt8) : UInt32 := (a.toUInt32 <<< 24) ||| (b.toUInt32 <<< 16) ||| (c.toUInt32 <<< 8) ||| d.toUInt32
/-- word number t of bytes, from a place on -/
def word (l : List UInt8) (at_ t : Nat) : UInt32 := be (l.getD (at_ + 4 * t) 0) (l.getD (at_ + 4 * t + 1) 0) (l.getD (at_ + 4 * t + 2) 0) (l.getD (at_ + 4 * t + 3) 0)
/-- a block mixed in: the 64 bytes from a place on -/
def blk (s : St) (l : List UInt8) (at_ : Nat) : St := add s (rounds (word l at_) s 64)
/-- n blocks from a place on -/
def blks (l : List UInt8) (s : St) : Nat → St
  | 0 => s
  | n + 1 => blk (blks l s n) l (64 * n)

theorem fold4 (a b c d : UInt32) : ((((((0 : UInt32) <<< 8) ||| a) <<< 8 ||| b) <<< 8 ||| c) <<< 8) ||| d = (a <<< 24) ||| (b <<< 16) ||| (c <<< 8) ||| d := by
  have e0 : ((0 : UInt32) <<< 8) = 0 := rfl
  have e1 : ∀ x : UInt32, x <<< 8 <<< 8 = x <<< 16 := fun x => by rw [← UInt32.shiftLeft_add (by decide) (by decide) (by decide)]; rfl
  have e2 : ∀ x : UInt32, x <<< 16 <<< 8 = x <<< 24 := fun x => by rw [← UInt32.shiftLeft_add (by decide) (by decide) (by decide)]; rfl
  simp only [e0, UInt32.zero_or, UInt32.shiftLeft_or, e1, e2]
/-- the first k bytes of a word -/
def part (l : List UInt8) (at_ t : Nat) : Nat → UInt32
  | 0 => 0
  | k + 1 => (part l at_ t k <<< 8) ||| (l.getD (at_ + 4 * t + k) 0).toUInt32
theorem part_four (l : List UInt8) (at_ t : Nat) : part l at_ t 4 = word l at_ t := by
  simp only [part, word, be, Nat.add_zero]
  generalize l.getD (at_ + 4 * t) 0 = a
  generalize l.getD (at_ + 4 * t + 1) 0 = b
  generalize l.getD (at_ + 4 * t + 2) 0 = c
  generalize l.getD (at_ + 4 * t + 3) 0 = d
  exact fold4 _ _ _ _

theorem word_drop (l : List UInt8) (k at_ t : Nat) : word (l.drop k) at_ t = word l (k + at_) t := by
  simp [word, List.getD_eq_getElem?_getD, List.getElem?_drop, Nat.add_assoc]
theorem blk_drop (s : St) (l : List UInt8) (k at_ : Nat) : blk s (l.drop k) at_ = blk s l (k + at_) := by
  have : word (l.drop k) at_ = word l (k + at_) := funext (word_drop l k at_)
  rw [blk, blk, this]

def get (s : St) : Nat → UInt32
  | 0 => s.a
  | 1 => s.b
  | 2 => s.c
  | 3 => s.d
  | 4 => s.e
  | 5 => s.f
  | 6 => s.g
  | _ => s.h
def byte (x : UInt32) (i : Nat) : UInt8 := UInt8.ofNat (x.toNat / 2 ^ (24 - 8 * i) % 256)
def zeros (n : Nat) : Nat := (119 - n % 64) % 64
/-- a number's eight bytes, the highest first -/
def eight (n : Nat) : List UInt8 := (List.range 8).map fun k => UInt8.ofNat (n / 2 ^ (56 - 8 * k) % 256)
theorem eight_length (n : Nat) : (eight n).length = 8 := by simp [eight]
theorem eight_take (n k : Nat) (h : k < 8) : (eight n).take (k + 1) = (eight n).take k ++ [UInt8.ofNat (n / 2 ^ (56 - 8 * k) % 256)] := by
  rw [List.take_succ_eq_append_getElem (by rw [eight_length]; exact h)]
  simp [eight]
def tail (n : Nat) : List UInt8 := 128 :: (List.replicate (zeros n) 0 ++ eight (n * 8))
def pad (l : List UInt8) : List UInt8 := l ++ tail l.length
/-- byte number k of what comes out -/
def outAt (s : St) (k : Nat) : UInt8 := byte (get s (k / 4)) (k % 4)
def out (s : St) : List UInt8 := (List.range 16).map (outAt s)
def sum (l : List UInt8) : List UInt8 := out (blks (pad l) init ((pad l).length / 64))

theorem sum_length (l : List UInt8) : (sum l).length = 16 := by simp [sum, out]
theorem zeros_add (n t : Nat) : zeros (n + 64 * t) = zeros n := by unfold zeros; rw [Nat.add_mul_mod_self_left]
theorem zeros_not {n i : Nat} (hn : n < 64) (h : i < zeros n) : (n + 1 + i) % 64 ≠ 56 := by
  unfold zeros at h
  have : n % 64 = n := Nat.mod_eq_of_lt hn
  rw [this] at h
  omega
theorem zeros_is {n : Nat} (hn : n < 64) : (n + 1 + zeros n) % 64 = 56 := by
  unfold zeros
  have : n % 64 = n := Nat.mod_eq_of_lt hn
  rw [this]
  omega
theorem zeros_mod (n : Nat) : zeros (n % 64) = zeros n := by unfold zeros; rw [Nat.mod_mod]
theorem zeros_not' {n i : Nat} (h : i < zeros n) : (n + 1 + i) % 64 ≠ 56 := by
  have h1 := zeros_not (n := n % 64) (Nat.mod_lt _ (by omega)) (by rw [zeros_mod]; exact h)
  omega
theorem zeros_is' (n : Nat) : (n + 1 + zeros n) % 64 = 56 := by
  have h1 := zeros_is (n := n % 64) (Nat.mod_lt _ (by omega))
  rw [zeros_mod] at h1
  omega
theorem zeros_lt (n : Nat) : zeros n < 64 := Nat.mod_lt _ (by omega)
theorem tail_length (n : Nat) : (tail n).length = zeros n + 9 := by simp [tail, eight_length]
theorem pad_length (l : List UInt8) : (pad l).length = l.length + zeros l.length + 9 := by simp [pad, tail_length]; omega
theorem pad_mod (l : List UInt8) : (pad l).length % 64 = 0 := by rw [pad_length]; unfold zeros; omega


theorem ws_congr {m m' : Nat → UInt32} (h : ∀ t, t < 16 → m t = m' t) : ∀ t, ws m t = ws m' t
  | 0 => rfl
  | t + 1 => by
    simp only [ws, step, ws_congr h t]
    by_cases e : t < 16
    · rw [if_pos e, if_pos e, h t e]
    · rw [if_neg e, if_neg e]
theorem rounds_congr {m m' : Nat → UInt32} (h : ∀ t, t < 16 → m t = m' t) (s : St) : ∀ t, rounds m s t = rounds m' s t
  | 0 => rfl
  | t + 1 => by
    have e : wd m t = wd m' t := by unfold wd; rw [ws_congr h]
    simp only [rounds, e, rounds_congr h s t]
theorem word_append (l x : List UInt8) (at_ t : Nat) (h : at_ + 4 * t + 4 ≤ l.length) : word (l ++ x) at_ t = word l at_ t := by
  have e : ∀ i, i < l.length → (l ++ x).getD i 0 = l.getD i 0 := fun i hi => by
    rw [List.getD_eq_getElem?_getD, List.getD_eq_getElem?_getD, List.getElem?_append_left hi]
  unfold word
  rw [e _ (by omega), e _ (by omega), e _ (by omega), e _ (by omega)]
theorem blk_append (s : St) (l x : List UInt8) (at_ : Nat) (h : at_ + 64 ≤ l.length) : blk s (l ++ x) at_ = blk s l at_ := by
  unfold blk
  rw [rounds_congr (fun t ht => word_append l x at_ t (by omega)) s 64]
theorem blks_append (l x : List UInt8) (s : St) : ∀ n, 64 * n ≤ l.length → blks (l ++ x) s n = blks l s n
  | 0, _ => rfl
  | n + 1, h => by
    simp only [blks, blks_append l x s n (by omega)]
    exact blk_append _ _ _ _ (by omega)
end Sha
