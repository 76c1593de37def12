/- Maps keyed by ints, in a block of the call's own: what is looked up, stored, cleared, made. Plain facts over any program. No condition. -/
import Derived.Test.YtgkljncigbiffaaDoorMTableMap4
import Derived.MapKept
import Derived.WideKeyRuns
import GoSem.Instr.MapEntry
import Derived.RangeFuncWrites
import Derived.RangeFuncBound
import Derived.RangeFuncCalls
import Derived.RangeFuncLeaves
import Derived.WalkKit
import Derived.OwnWalkIn
import Derived.TacticsInMore
import Derived.LoopNIn
import Derived.LoopIn
import Derived.Deep.MidRow
namespace Go
open Go.RowKit Go.Instr Go.MapKept
/-- A map's block. -/
def MapB (w : World) (g : Nat) (es : Array MapEntry) (c : Nat) : Prop := w.heap[g]? = some (.map es c)
section
variable {w w' : World} {g : Nat} {es : Array MapEntry} {c : Nat}
theorem MapB.lt (h : MapB w g es c) : g < w.heap.size := (Array.getElem?_eq_some_iff.1 h).1
theorem MapB.below {B : Nat} (h : MapB w g es c) (hb : Below B w w') (hlt : g < B) : MapB w' g es c := (hb.block g hlt).trans h
theorem MapB.upd {k : Nat} (h : MapB w g es c) (u : Upd k w w') (hne : g ≠ k) : MapB w' g es c := (u.block g hne).trans h
theorem MapB.drew (h : MapB w g es c) : MapB w.drew g es c := h
theorem MapB.alloc (h : MapB w g es c) (o : Obj) : MapB (w.alloc o) g es c := by
  have hl := h.lt
  unfold MapB at *
  rw [← h]
  exact ((Below.refl w.heap.size w).alloc (Nat.le_refl _) o).block g hl
theorem MapB.new (w : World) (es : Array MapEntry) (c : Nat) : MapB (w.alloc (.map es c)) w.heap.size es c := heap_alloc_last w _
instance : KeepsTo w w' (MapB w g es c) (MapB w' g es c) := ⟨fun hb h => h.below hb h.lt⟩
end
/-- The place and the element of a key. -/
def mfind : List MapEntry → Int → Nat → Option (Nat × Value)
  | [], _, _ => none
  | e :: es, a, i => match e.key with
    | .int .i64 b => if a = b then some (i, e.val) else mfind es a (i + 1)
    | _ => mfind es a (i + 1)
def IntKeys (es : List MapEntry) : Prop := ∀ e ∈ es, ∃ a, e.key = .int .i64 a
def mget (es : Array MapEntry) (a : Int) : Option Value := (mfind es.toList a 0).map (·.2)
theorem findNow_int (a : Int) : ∀ (es : List MapEntry) (i : Nat), IntKeys es → findNow (.int .i64) (.int .i64 a) es i = some (mfind es a i)
  | [], _, _ => rfl
  | e :: es, i, h => by
    obtain ⟨b, hb⟩ := h e (.head _)
    have ih := findNow_int a es (i + 1) (fun x hx => h x (.tail _ hx))
    unfold findNow mfind
    rw [hb]
    by_cases hab : a = b
    · subst hab; simp [sameNow]
    · simp only [sameNow, if_true, beq_eq_false_iff_ne.2 hab, if_neg hab, ih]
/-- What a store leaves. -/
def mput (es : Array MapEntry) (c : Nat) (a : Int) (v : Value) : Array MapEntry × Nat :=
  match mfind es.toList a 0 with
  | some (i, _) => (es.modify i fun e => { e with key := .int .i64 a, val := v }, c)
  | none => (es.push { key := .int .i64 a, val := v, born := c }, c + 1)
theorem mfind_lt (a : Int) : ∀ (es : List MapEntry) (i j : Nat) (v : Value), mfind es a i = some (j, v) → i ≤ j ∧ ∃ e, es[j - i]? = some e ∧ e.key = .int .i64 a ∧ e.val = v
  | [], _, _, _, h => by cases h
  | e :: es, i, j, v, h => by
    unfold mfind at h
    split at h
    · rename_i b hb
      by_cases hab : a = b
      · rw [if_pos hab] at h
        injection h with h; injection h with h1 h2
        subst h1 h2
        exact ⟨Nat.le_refl _, e, by simp, by rw [hb, hab], rfl⟩
      · rw [if_neg hab] at h
        obtain ⟨h1, e', h2, h3⟩ := mfind_lt a es (i + 1) j v h
        exact ⟨by omega, e', by rw [show j - i = (j - (i + 1)) + 1 by omega]; simpa using h2, h3⟩
    · obtain ⟨h1, e', h2, h3⟩ := mfind_lt a es (i + 1) j v h
      exact ⟨by omega, e', by rw [show j - i = (j - (i + 1)) + 1 by omega]; simpa using h2, h3⟩
theorem IntKeys.put {es : Array MapEntry} {c : Nat} {a : Int} {v : Value} (h : IntKeys es.toList) : IntKeys (mput es c a v).1.toList := by
  unfold mput
  split
  · intro e he
    rw [Array.toList_modify] at he
    obtain ⟨k, hk, rfl⟩ := List.getElem_of_mem he
    rw [List.getElem_modify]
    split
    · exact ⟨a, rfl⟩
    · exact h _ (List.getElem_mem _)
  · intro e he
    rw [Array.toList_push, List.mem_append, List.mem_singleton] at he
    rcases he with he | rfl
    · exact h e he
    · exact ⟨a, rfl⟩
section
variable {P : Program} {w : World} {ops : Array Oper} {rest : List Oper} {o : Oper} {a : Act} {Q : Exit → Act → World → Prop}
theorem run_lookup_int (t kt et : TypeId) (ht : P.underlying t = some (.map kt et)) (hk : P.underlying kt = some (.int .i64)) (g : Nat) (es : Array MapEntry) (c : Nat) (hg : MapB w g es c) (hes : IntKeys es.toList) (x : Int) (z : Value)
    (hz : (zeroValue et).run P w = .ok z w) : (lookup t (.map (some g)) (.int .i64 x) true).run P w = .ok (.tuple #[(mget es x).getD z, .bool (mget es x).isSome]) w := by
  have h1 := run_checkKey (P := P) (w := w) (k := .int .i64 x) hk rfl es.isEmpty 9999
  have h2 := run_findKey (w := w) hk (findNow_int x es.toList 0 hes)
  have h0 : (getObj g).run P w = .ok (.map es c) w := MapKept.run_getObj_map hg
  unfold lookup mget
  cases hm : mfind es.toList x 0 with
  | none => rw [hm] at h2; simp [run_underlying ht, h0, h1, h2, hz, Result.andThen]
  | some p => rw [hm] at h2; simp [run_underlying ht, h0, h1, h2, Result.andThen]
theorem wpList_lookup_int (hgd : o.guard = none) (t kt et : TypeId) (m k : Operand) (ho : o.op = .lookup t m k true) (ht : P.underlying t = some (.map kt et)) (hk : P.underlying kt = some (.int .i64)) (g : Nat) (es : Array MapEntry) (c : Nat)
    (hg : MapB w g es c) (hes : IntKeys es.toList) (x : Int) (z : Value) (hz : (zeroValue et).run P w = .ok z w) (hm : a.eval m = .map (some g)) (hx : a.eval k = .int .i64 x)
    (h : wpList P ops Q rest (a.put o.dst (.tuple #[(mget es x).getD z, .bool (mget es x).isSome])) w) : wpList P ops Q (o :: rest) a w :=
  wpList_run _ hgd (by unfold execOp; simp only [ho, hm, hx, run_lookup_int t kt et ht hk g es c hg hes x z hz, Sem.run_bind, Result.andThen_ok, Sem.run_pure]) h
theorem sameBits_int (x : Int) : sameBits 10000 (.int .i64 x) (.int .i64 x) = true := by simp [sameBits]
theorem run_mapUpdate_int (t kt et : TypeId) (ht : P.underlying t = some (.map kt et)) (hk : P.underlying kt = some (.int .i64)) (g : Nat) (es : Array MapEntry) (c : Nat) (hg : MapB w g es c) (hes : IntKeys es.toList) (x : Int) (v : Value) :
    ∃ w', (mapUpdate t (.map (some g)) (.int .i64 x) v).run P w = .ok () w' ∧ MapB w' g (mput es c x v).1 (mput es c x v).2 ∧ Upd g w w' := by
  have h1 := run_checkKey (P := P) (w := w) (k := .int .i64 x) hk rfl false 9999
  have h2 := run_findKey (w := w) hk (findNow_int x es.toList 0 hes)
  have hu : ∀ ob, MapB w g es c → Upd g w { w with heap := w.heap.setIfInBounds g ob } := fun ob _ => ⟨rfl, rfl, rfl, by simp, fun k hk => by simp [Ne.symm hk]⟩
  have h0 : (getObj g).run P w = .ok (.map es c) w := MapKept.run_getObj_map hg
  have hs : ∀ ob, (setObj g ob).run P w = .ok () { w with heap := w.heap.setIfInBounds g ob } := fun ob => MapKept.run_setObj_map ob hg
  unfold mapUpdate mput
  cases hm : mfind es.toList x 0 with
  | none =>
    rw [hm] at h2
    simp only [Sem.run_bind, run_underlying ht, Result.andThen_ok, h0, h1, h2, hs]
    exact ⟨_, rfl, (heap_set hg).1, hu _ hg⟩
  | some p =>
    obtain ⟨i, v0⟩ := p
    obtain ⟨_, e, h3, h4, _⟩ := mfind_lt x es.toList 0 i v0 hm
    have h5 : ((es[i]?).map (·.key)).getD (.int .i64 x) = .int .i64 x := by
      rw [Nat.sub_zero, Array.getElem?_toList] at h3
      rw [h3]; exact h4
    rw [hm] at h2
    simp only [Sem.run_bind, run_underlying ht, Result.andThen_ok, h0, h1, h2, h5, keyThatStays, sameBits_int, if_true, Sem.run_pure, hs]
    exact ⟨_, rfl, (heap_set hg).1, hu _ hg⟩
theorem wpList_mapUpdate_int (hgd : o.guard = none) (t kt et : TypeId) (m k y : Operand) (ho : o.op = .mapUpdate t m k y) (ht : P.underlying t = some (.map kt et)) (hk : P.underlying kt = some (.int .i64)) (g : Nat) (es : Array MapEntry) (c : Nat)
    (hg : MapB w g es c) (hes : IntKeys es.toList) (x : Int) (v : Value) (hm : a.eval m = .map (some g)) (hx : a.eval k = .int .i64 x) (hy : a.eval y = v)
    (h : ∀ w', MapB w' g (mput es c x v).1 (mput es c x v).2 → Upd g w w' → wpList P ops Q rest (a.put o.dst undef) w') : wpList P ops Q (o :: rest) a w := by
  obtain ⟨w', h1, h2, h3⟩ := run_mapUpdate_int t kt et ht hk g es c hg hes x v
  refine wpList_plain hgd fun _ hK => ?_
  unfold Oper.wp execOp
  simp only [ho, hm, hx, hy, h1, Sem.run_bind, Sem.run_pure, Result.andThen_ok]
  exact hK _ _ (h w' h2 h3)
end
end Go

/- Worlds that differ in a few blocks and in new ones alone. Plain facts. No condition. -/
namespace Go
open Go.RowKit
/-- Of the blocks that were there, those of X alone may have been written. -/
structure Near (X : List Nat) (w w' : World) : Prop where
  os : w'.os = w.os
  tape : w'.tape = w.tape
  output : w'.output = w.output
  size : w.heap.size ≤ w'.heap.size
  block : ∀ k, k < w.heap.size → k ∉ X → w'.heap[k]? = w.heap[k]?
section
variable {X Y : List Nat} {w w' w'' : World}
theorem Near.refl (X : List Nat) (w : World) : Near X w w := ⟨rfl, rfl, rfl, Nat.le_refl _, fun _ _ _ => rfl⟩
theorem Near.trans (h : Near X w w') (k : Near X w' w'') : Near X w w'' :=
  ⟨k.os.trans h.os, k.tape.trans h.tape, k.output.trans h.output, Nat.le_trans h.size k.size, fun x hx hn => (k.block x (Nat.lt_of_lt_of_le hx h.size) hn).trans (h.block x hx hn)⟩
theorem Near.wider (h : Near X w w') (hs : ∀ x ∈ X, x ∈ Y) : Near Y w w' := ⟨h.os, h.tape, h.output, h.size, fun k hk hn => h.block k hk fun hx => hn (hs k hx)⟩
theorem Near.below (h : Below w.heap.size w w') : Near X w w' := ⟨h.os, h.tape, h.output, h.size, fun k hk _ => h.block k hk⟩
theorem Near.upd {g : Nat} (u : Upd g w w') (hg : g ∈ X) : Near X w w' := ⟨u.os, u.tape, u.output, by rw [u.size]; exact Nat.le_refl _, fun k _ hn => u.block k fun e => hn (e ▸ hg)⟩
theorem Near.drew (h : Near X w w') : Near X w w'.drew := ⟨h.os, h.tape, h.output, h.size, h.block⟩
/-- Blocks that came later may be written as well. -/
theorem Near.new {g : Nat} (h : Near X w w') (u : Upd g w' w'') (hg : w.heap.size ≤ g) : Near X w w'' :=
  ⟨u.os.trans h.os, u.tape.trans h.tape, u.output.trans h.output, by rw [u.size]; exact h.size, fun k hk hn => (u.block k (by omega)).trans (h.block k hk hn)⟩
theorem Near.toBelow {B : Nat} (h : Near X w w') (hX : ∀ x ∈ X, B ≤ x) (hB : B ≤ w.heap.size) : Below B w w' := ⟨h.os, h.tape, h.output, h.size, fun k hk => h.block k (by omega) fun hx => by have := hX k hx; omega⟩
theorem Blk.near {g : Nat} {t : TypeId} {cs : Array Value} (h : Blk w g t cs) (k : Near X w w') (hn : g ∉ X) : Blk w' g t cs := (k.block g h.lt hn).trans h
theorem MapB.near {g : Nat} {es : Array MapEntry} {c : Nat} (h : MapB w g es c) (k : Near X w w') (hn : g ∉ X) : MapB w' g es c := (k.block g h.lt hn).trans h
theorem Near.cell {p : Addr} (k : Near X w w') (hp : p.block < w.heap.size) (hn : p.block ∉ X) : w'.cell? p = w.cell? p := by
  unfold World.cell?; rw [k.block _ hp hn]
theorem Bytes.near {A : Option Addr} {l : List UInt8} (h : Bytes w A l) (k : Near X w w') (hn : ∀ ad, A = some ad → ad.block ∉ X) : Bytes w' A l := fun hne => by
  obtain ⟨b, off, e, hc⟩ := h hne
  refine ⟨b, off, e, fun j v hv => ?_⟩
  have h1 := hc j v hv
  exact (k.cell (p := ⟨b, off + j, none⟩) (World.block_lt_of_cell? w _ h1) (hn ⟨b, off, none⟩ e)).trans h1
end
end Go

/- Maps keyed by arrays or structs, in a block of the call's own: what is looked up, stored, stored through an entry. Plain facts over any program. No condition. -/
namespace Go
open Go.RowKit Go.Instr Go.MapKept
/-- Keys of a type: which values they are, that they may be keys, how they are compared. -/
structure KeyLaw (P : Program) (kt : TypeId) {α : Type} (ok : α → Prop) (enc : α → Value) : Prop where
  wide : (match P.underlying kt with | some (.array _ _) | some (.struct _) => true | _ => false) = true
  check : ∀ em x w, ok x → (checkKey em 10000 kt (enc x)).run P w = .ok () w
  eq : ∀ x y w, ok x → ok y → ∃ r : Bool, (Op.equal kt (enc x) (enc y)).run P w = .ok r w ∧ (r = true ↔ x = y)
  bits : ∀ x, ok x → sameBits 10000 (enc x) (enc x) = true
section
variable {α : Type}
def kfind [DecidableEq α] : List (α × Value) → α → Nat → Option (Nat × Value)
  | [], _, _ => none
  | p :: l, x, i => if x = p.1 then some (i, p.2) else kfind l x (i + 1)
def kget [DecidableEq α] (l : List (α × Value)) (x : α) : Option Value := (kfind l x 0).map (·.2)
def kput [DecidableEq α] (l : List (α × Value)) (x : α) (v : Value) : List (α × Value) := match kfind l x 0 with | some p => l.set p.1 (x, v) | none => l ++ [(x, v)]
theorem kfind_lt [DecidableEq α] {x : α} : ∀ (l : List (α × Value)) (i j : Nat) (v : Value), kfind l x i = some (j, v) → i ≤ j ∧ l[j - i]? = some (x, v)
  | [], _, _, _, h => by cases h
  | p :: l, i, j, v, h => by
    unfold kfind at h
    by_cases hx : x = p.1
    · rw [if_pos hx] at h
      injection h with h; injection h with h1 h2
      subst h1 h2
      exact ⟨Nat.le_refl _, by rw [Nat.sub_self, hx]; rfl⟩
    · rw [if_neg hx] at h
      obtain ⟨h1, h2⟩ := kfind_lt l (i + 1) j v h
      exact ⟨by omega, by rw [show j - i = (j - (i + 1)) + 1 by omega]; simpa using h2⟩
theorem kfind_shift [DecidableEq α] {x : α} : ∀ (l : List (α × Value)) (i : Nat), kfind l x i = (kfind l x 0).map fun p => (p.1 + i, p.2)
  | [], _ => rfl
  | p :: l, i => by
    unfold kfind
    by_cases hx : x = p.1
    · rw [if_pos hx, if_pos hx]; simp
    · rw [if_neg hx, if_neg hx, kfind_shift l (i + 1), kfind_shift l 1, Option.map_map]
      congr 1
      funext p
      simp only [Function.comp, Prod.mk.injEq, and_true]
      omega
theorem kget_cons [DecidableEq α] {p : α × Value} {l : List (α × Value)} {x : α} : kget (p :: l) x = if x = p.1 then some p.2 else kget l x := by
  unfold kget
  rw [kfind]
  by_cases hx : x = p.1
  · rw [if_pos hx, if_pos hx]; rfl
  · rw [if_neg hx, if_neg hx, kfind_shift l 1, Option.map_map]
    rfl
theorem kput_cons [DecidableEq α] {p : α × Value} {l : List (α × Value)} {x : α} {v : Value} : kput (p :: l) x v = if x = p.1 then (x, v) :: l else p :: kput l x v := by
  unfold kput
  rw [kfind]
  by_cases hx : x = p.1
  · rw [if_pos hx, if_pos hx]; rfl
  · rw [if_neg hx, if_neg hx, kfind_shift l 1]
    cases kfind l x 0 <;> rfl
variable {P : Program} {kt : TypeId} {ok : α → Prop} {enc : α → Value}
/-- A map's entries are these pairs. -/
structure Says (ok : α → Prop) (enc : α → Value) (es : Array MapEntry) (c : Nat) (l : List (α × Value)) : Prop where
  pairs : es.toList.map (fun e => (e.key, e.val)) = l.map fun p => (enc p.1, p.2)
  born : (es.toList.map (·.born)).Nodup
  old : ∀ e ∈ es.toList, e.born < c
  ok : ∀ p ∈ l, ok p.1
def MapK (w : World) (g : Nat) (ok : α → Prop) (enc : α → Value) (l : List (α × Value)) : Prop := ∃ es c, MapB w g es c ∧ Says ok enc es c l
theorem MapK.lt {w : World} {g : Nat} {l : List (α × Value)} (h : MapK w g ok enc l) : g < w.heap.size := by obtain ⟨es, c, h1, _⟩ := h; exact h1.lt
theorem MapK.near {w w' : World} {g : Nat} {l : List (α × Value)} {X : List Nat} (h : MapK w g ok enc l) (k : Near X w w') (hn : g ∉ X) : MapK w' g ok enc l := by obtain ⟨es, c, h1, h2⟩ := h; exact ⟨es, c, h1.near k hn, h2⟩
theorem MapK.new (w : World) (c : Nat) : MapK (w.alloc (.map #[] c)) w.heap.size ok enc ([] : List (α × Value)) := ⟨#[], c, MapB.new w _ _, rfl, by simp, by simp, by simp⟩
theorem run_findAsking_k [DecidableEq α] (hk : KeyLaw P kt ok enc) (x : α) (hx : ok x) (w : World) : ∀ (es : List MapEntry) (l : List (α × Value)) (i : Nat), es.map (fun e => (e.key, e.val)) = l.map (fun p => (enc p.1, p.2)) → (∀ p ∈ l, ok p.1) → (findAsking kt (enc x) es i).run P w = .ok (kfind l x i) w
  | [], [], _, _, _ => by simp [findAsking, kfind]
  | [], _ :: _, _, h, _ => by simp at h
  | _ :: _, [], _, h, _ => by simp at h
  | e :: es, p :: l, i, h, ho => by
    simp only [List.map_cons, List.cons.injEq, Prod.mk.injEq] at h
    obtain ⟨⟨h1, h2⟩, h3⟩ := h
    obtain ⟨r, hr, hiff⟩ := hk.eq x p.1 w hx (ho p (.head _))
    have ih := run_findAsking_k hk x hx w es l (i + 1) h3 fun q hq => ho q (.tail _ hq)
    unfold findAsking kfind
    rw [h1]
    simp only [Sem.run_bind, hr, Result.andThen_ok]
    by_cases hxp : x = p.1
    · rw [hiff.2 hxp, if_pos hxp, h2]; simp
    · have : r = false := by cases r; rfl; exact absurd (hiff.1 rfl) hxp
      rw [this, if_neg hxp]
      simpa using ih
theorem run_findKey_k [DecidableEq α] (hk : KeyLaw P kt ok enc) (x : α) (hx : ok x) (w : World) {es : Array MapEntry} {c : Nat} {l : List (α × Value)} (hs : Says ok enc es c l) : (findKey kt (enc x) es.toList).run P w = .ok (kfind l x 0) w := by
  rw [run_findKey_eq (w := w) hk.wide]
  exact run_findAsking_k hk x hx w es.toList l 0 hs.pairs hs.ok
theorem run_lookup_k [DecidableEq α] (hk : KeyLaw P kt ok enc) (t et : TypeId) (ht : P.underlying t = some (.map kt et)) {w : World} {g : Nat} {l : List (α × Value)} (hg : MapK w g ok enc l) (x : α) (hx : ok x) (z : Value) (hz : (zeroValue et).run P w = .ok z w) (ck : Bool) :
    (lookup t (.map (some g)) (enc x) ck).run P w = .ok (if ck then .tuple #[(kget l x).getD z, .bool (kget l x).isSome] else (kget l x).getD z) w := by
  obtain ⟨es, c, hb, hs⟩ := hg
  have h1 := hk.check es.isEmpty x w hx
  have h2 := run_findKey_k hk x hx w hs
  have h0 : (getObj g).run P w = .ok (.map es c) w := MapKept.run_getObj_map hb
  unfold lookup kget
  cases hm : kfind l x 0 with
  | none => rw [hm] at h2; cases ck <;> simp [run_underlying ht, h0, h1, h2, hz, Result.andThen]
  | some p => rw [hm] at h2; cases ck <;> simp [run_underlying ht, h0, h1, h2, Result.andThen]
theorem Says.entry {es : Array MapEntry} {c : Nat} {l : List (α × Value)} (hs : Says ok enc es c l) {i : Nat} {p : α × Value} (h : l[i]? = some p) : ∃ e, es[i]? = some e ∧ e.key = enc p.1 ∧ e.val = p.2 := by
  have h1 := congrArg (·[i]?) hs.pairs
  simp only [List.getElem?_map, h, Option.map_some] at h1
  rw [Array.getElem?_toList] at h1
  cases he : es[i]? with
  | none => rw [he] at h1; simp at h1
  | some e =>
    rw [he] at h1
    simp only [Option.map_some, Option.some.injEq, Prod.mk.injEq] at h1
    exact ⟨e, rfl, h1.1, h1.2⟩
/-- An entry of the map is given its key anew, or a value. -/
theorem Says.modify {es : Array MapEntry} {c : Nat} {l : List (α × Value)} (hs : Says ok enc es c l) (i : Nat) (f : MapEntry → MapEntry) (q : α × Value) (hf : ∀ e, es[i]? = some e → (f e).key = enc q.1 ∧ (f e).val = q.2) (hb : ∀ e, (f e).born = e.born) (ho : ok q.1) :
    Says ok enc (es.modify i f) c (l.set i q) := by
  have hborn : (es.modify i f).toList.map (·.born) = es.toList.map (·.born) := by
    apply List.ext_getElem?
    intro j
    rw [Array.toList_modify, List.getElem?_map, List.getElem?_map, List.getElem?_modify]
    by_cases hij : i = j
    · subst hij; cases es.toList[i]? <;> simp [hb]
    · cases es.toList[j]? <;> simp [hij]
  refine ⟨?_, by rw [hborn]; exact hs.born, fun e he => ?_, fun p hp => ?_⟩
  · apply List.ext_getElem?
    intro j
    have h1 := congrArg (·[j]?) hs.pairs
    simp only [List.getElem?_map] at h1
    rw [List.getElem?_map, List.getElem?_map, Array.toList_modify, List.getElem?_modify, List.getElem?_set]
    by_cases hij : i = j
    · subst hij
      rw [if_pos rfl]
      cases he : es.toList[i]? with
      | none =>
        rw [he] at h1
        have h9 : l[i]? = none := by cases h : l[i]? with | none => rfl | some _ => rw [h] at h1; cases h1
        have : ¬ i < l.length := by rw [List.getElem?_eq_none_iff] at h9; omega
        rw [if_neg this]; rfl
      | some e =>
        rw [he] at h1
        have : i < l.length := by
          by_cases h : i < l.length
          · exact h
          · rw [List.getElem?_eq_none (by omega)] at h1; cases h1
        rw [if_pos this]
        obtain ⟨h2, h3⟩ := hf e (by rw [← Array.getElem?_toList]; exact he)
        simp [h2, h3]
    · rw [if_neg hij]
      cases he : es.toList[j]? with
      | none => rw [he] at h1; simpa [hij] using h1
      | some e => rw [he] at h1; simpa [hij] using h1
  · have hm : e.born ∈ (es.modify i f).toList.map (·.born) := List.mem_map.2 ⟨e, he, rfl⟩
    rw [hborn] at hm
    obtain ⟨e', he', hb'⟩ := List.mem_map.1 hm
    rw [← hb']; exact hs.old e' he'
  · rcases List.mem_or_eq_of_mem_set hp with h | h
    · exact hs.ok p h
    · rw [h]; exact ho
theorem Says.push {es : Array MapEntry} {c : Nat} {l : List (α × Value)} (hs : Says ok enc es c l) (x : α) (v : Value) (hx : ok x) : Says ok enc (es.push { key := enc x, val := v, born := c }) (c + 1) (l ++ [(x, v)]) := by
  refine ⟨?_, ?_, fun e he => ?_, fun p hp => ?_⟩
  · rw [Array.toList_push, List.map_append, List.map_append, hs.pairs]; rfl
  · rw [Array.toList_push, List.map_append]
    refine List.nodup_append.2 ⟨hs.born, by simp, fun a ha b hb => ?_⟩
    obtain ⟨e, he, rfl⟩ := List.mem_map.1 ha
    simp only [List.map_cons, List.map_nil, List.mem_singleton] at hb
    subst hb
    have := hs.old e he
    omega
  · rw [Array.toList_push, List.mem_append, List.mem_singleton] at he
    rcases he with he | rfl
    · have := hs.old e he; omega
    · exact Nat.lt_succ_self c
  · rw [List.mem_append, List.mem_singleton] at hp
    rcases hp with hp | rfl
    · exact hs.ok p hp
    · exact hx
theorem upd_heap {w : World} {g : Nat} (ob : Obj) : Upd g w { w with heap := w.heap.setIfInBounds g ob } := ⟨rfl, rfl, rfl, by simp, fun k hk => by simp [Ne.symm hk]⟩
theorem run_mapUpdate_k [DecidableEq α] (hk : KeyLaw P kt ok enc) (t et : TypeId) (ht : P.underlying t = some (.map kt et)) {w : World} {g : Nat} {l : List (α × Value)} (hg : MapK w g ok enc l) (x : α) (hx : ok x) (v : Value) :
    ∃ w', (mapUpdate t (.map (some g)) (enc x) v).run P w = .ok () w' ∧ MapK w' g ok enc (kput l x v) ∧ Upd g w w' := by
  obtain ⟨es, c, hb, hs⟩ := hg
  have h1 := hk.check false x w hx
  have h2 := run_findKey_k hk x hx w hs
  have h0 : (getObj g).run P w = .ok (.map es c) w := MapKept.run_getObj_map hb
  have hst : ∀ ob, (setObj g ob).run P w = .ok () { w with heap := w.heap.setIfInBounds g ob } := fun ob => MapKept.run_setObj_map ob hb
  unfold mapUpdate kput
  cases hm : kfind l x 0 with
  | none =>
    rw [hm] at h2
    simp only [Sem.run_bind, run_underlying ht, Result.andThen_ok, h0, h1, h2, hst]
    exact ⟨_, rfl, ⟨_, _, (heap_set hb).1, hs.push x v hx⟩, upd_heap _⟩
  | some p =>
    obtain ⟨i, v0⟩ := p
    have h3 := (kfind_lt l 0 i v0 hm).2
    rw [Nat.sub_zero] at h3
    obtain ⟨e, he, hke, _⟩ := hs.entry h3
    have h5 : ((es[i]?).map (·.key)).getD (enc x) = enc x := by rw [he]; exact hke
    rw [hm] at h2
    simp only [Sem.run_bind, run_underlying ht, Result.andThen_ok, h0, h1, h2, h5, keyThatStays, hk.bits x hx, if_true, Sem.run_pure, hst]
    exact ⟨_, rfl, ⟨_, _, (heap_set hb).1, hs.modify i _ (x, v) (fun _ _ => ⟨rfl, rfl⟩) (fun _ => rfl) hx⟩, upd_heap _⟩
end
end Go

/- A range over a function that yields a fixed row of items; the state ahead of each round is known to the function, too. Plain facts over any program. No condition. -/
namespace Go
open Go.RowKit
section
variable {F : Fence} {n : Nat} {P : Program}
theorem KeepsFrom.near {B : Nat} {X : List Nat} {W W' : World} (h : Near X W W') (hX : ∀ x ∈ X, x < B) : KeepsFrom B W W' :=
  ⟨h.size, fun k _ hB hk _ => (h.block k (Array.getElem?_eq_some_iff.1 hk).1 (fun e => by have := hX k e; omega)).trans hk⟩
theorem KeepsFrom.below {B : Nat} {W W' : World} (h : Below W.heap.size W W') : KeepsFrom B W W' :=
  ⟨h.size, fun k _ _ hk _ => (h.block k (Array.getElem?_eq_some_iff.1 hk).1).trans hk⟩
theorem putObj_near (W : World) (l : Nat) (o : Obj) : Near [l] W (W.putObj l o) :=
  ⟨rfl, rfl, rfl, by simp [World.putObj], fun k _ hn => World.putObj_heap_other (fun e => hn (by rw [e]; exact List.mem_singleton_self _))⟩
/-- What lay below B, and all cells, lie as they lay. -/
structure Kept (B : Nat) (W W' : World) : Prop where
  os : W'.os = W.os
  tape : W'.tape = W.tape
  output : W'.output = W.output
  size : W.heap.size ≤ W'.heap.size
  low : ∀ j, j < B → j < W.heap.size → W'.heap[j]? = W.heap[j]?
  cells : ∀ (j : Nat) (o : Obj), W.heap[j]? = some o → o.isCells = true → W'.heap[j]? = some o
theorem Kept.below {B : Nat} {W W' : World} (h : Below W.heap.size W W') : Kept B W W' :=
  ⟨h.os, h.tape, h.output, h.size, fun j _ hj => h.block j hj, fun j _ hj _ => (h.block j (Array.getElem?_eq_some_iff.1 hj).1).trans hj⟩
theorem Kept.put {B : Nat} {W : World} {l : Nat} {o o' : Obj} (hB : B ≤ l) (hl : W.heap[l]? = some o') (ho : o'.isCells = false) : Kept B W (W.putObj l o) :=
  ⟨rfl, rfl, rfl, by simp [World.putObj], fun j hj _ => World.putObj_heap_other (by omega), fun j o2 hj h2 => by
    by_cases e : j = l
    · subst e; rw [hl] at hj; injection hj with hj; subst hj; rw [ho] at h2; cases h2
    · exact (World.putObj_heap_other e).trans hj⟩
theorem Blk.keptW {B : Nat} {W W' : World} {g : Nat} {t : TypeId} {cs : Array Value} (h : Blk W g t cs) (k : Kept B W W') : Blk W' g t cs := k.cells g _ h rfl
theorem MapB.keptW {B : Nat} {W W' : World} {g : Nat} {es : Array MapEntry} {c : Nat} (h : MapB W g es c) (k : Kept B W W') (hg : g < B) : MapB W' g es c := (k.low g hg h.lt).trans h
theorem Kept.cell {B : Nat} {W W' : World} (k : Kept B W W') {p : Addr} {v : Value} (h : W.cell? p = some v) : W'.cell? p = some v := by
  unfold World.cell? at h ⊢
  split at h
  · rename_i cs t e
    rw [k.cells _ _ e rfl]; exact h
  · cases h
theorem Near.keptW {B : Nat} {X : List Nat} {w W W' : World} (h : Near X w W) (k : Kept B W W') (hB : w.heap.size ≤ B) : Near X w W' :=
  ⟨k.os.trans h.os, k.tape.trans h.tape, k.output.trans h.output, Nat.le_trans h.size k.size, fun j hj hn => (k.low j (by omega) (Nat.lt_of_lt_of_le hj h.size)).trans (h.block j hj hn)⟩
theorem Near.high {X Y : List Nat} {w W W' : World} (h : Near X w W) (k : Near Y W W') (hY : ∀ y ∈ Y, w.heap.size ≤ y) : Near X w W' :=
  ⟨k.os.trans h.os, k.tape.trans h.tape, k.output.trans h.output, Nat.le_trans h.size k.size, fun j hj hn => (k.block j (Nat.lt_of_lt_of_le hj h.size) (fun hx => by have := hY j hx; omega)).trans (h.block j hj hn)⟩
theorem Reads.keptW {B : Nat} {W W' : World} {A : Option Addr} {xs : List Value} (h : Reads W A xs) (k : Kept B W W') : Reads W' A xs := fun hn => by
  obtain ⟨b, off, e, hc⟩ := h hn
  exact ⟨b, off, e, fun j v hv => k.cell (hc j v hv)⟩
end
end Go

/- Maps keyed by arrays or structs: the walk's arms. Plain facts over any program. No condition. -/
namespace Go
open Go.RowKit Go.Instr
section
variable {α : Type} {P : Program} {kt : TypeId} {ok : α → Prop} {enc : α → Value}
variable {w : World} {ops : Array Oper} {rest : List Oper} {o : Oper} {a : Act} {Q : Exit → Act → World → Prop}
theorem wpList_lookup_k [DecidableEq α] (hgd : o.guard = none) (hk : KeyLaw P kt ok enc) (t et : TypeId) (m k : Operand) (ck : Bool) (ho : o.op = .lookup t m k ck) (ht : P.underlying t = some (.map kt et)) {g : Nat} {l : List (α × Value)} (hg : MapK w g ok enc l)
    (x : α) (hx : ok x) (z : Value) (hz : (zeroValue et).run P w = .ok z w) (hm : a.eval m = .map (some g)) (he : a.eval k = enc x)
    (h : wpList P ops Q rest (a.put o.dst (if ck then .tuple #[(kget l x).getD z, .bool (kget l x).isSome] else (kget l x).getD z)) w) : wpList P ops Q (o :: rest) a w :=
  wpList_run _ hgd (by unfold execOp; simp only [ho, hm, he, run_lookup_k hk t et ht hg x hx z hz ck, Sem.run_bind, Result.andThen_ok, Sem.run_pure]) h
theorem wpList_mapUpdate_k [DecidableEq α] (hgd : o.guard = none) (hk : KeyLaw P kt ok enc) (t et : TypeId) (m k y : Operand) (ho : o.op = .mapUpdate t m k y) (ht : P.underlying t = some (.map kt et)) {g : Nat} {l : List (α × Value)} (hg : MapK w g ok enc l)
    (x : α) (hx : ok x) (v : Value) (hm : a.eval m = .map (some g)) (he : a.eval k = enc x) (hy : a.eval y = v)
    (h : ∀ w', MapK w' g ok enc (kput l x v) → Upd g w w' → wpList P ops Q rest (a.put o.dst undef) w') : wpList P ops Q (o :: rest) a w := by
  obtain ⟨w', h1, h2, h3⟩ := run_mapUpdate_k hk t et ht hg x hx v
  refine wpList_plain hgd fun _ hK => ?_
  unfold Oper.wp execOp
  simp only [ho, hm, he, hy, h1, Sem.run_bind, Sem.run_pure, Result.andThen_ok]
  exact hK _ _ (h w' h2 h3)
theorem MapK.keptW {B : Nat} {W W' : World} {g : Nat} {l : List (α × Value)} (h : MapK W g ok enc l) (k : Kept B W W') (hg : g < B) : MapK W' g ok enc l := by obtain ⟨es, c, h1, h2⟩ := h; exact ⟨es, c, h1.keptW k hg, h2⟩
end
end Go

/- The bytes of a block of the grid, as plain lists: what they are, how they are read back. Plain facts. No condition. -/
namespace Go.Proofs.YtgkljncigbiffaaDoor
theorem Sha.sum_len (l : List UInt8) : (Sha.sum l).length = 16 := by simp [Sha.sum, Sha.out]
/-! ### Numbers of four bytes, the lowest first -/
def le4 (n : Nat) : List UInt8 := [UInt8.ofNat (n % 256), UInt8.ofNat (n / 256 % 256), UInt8.ofNat (n / 65536 % 256), UInt8.ofNat (n / 16777216 % 256)]
def un4 (a b c d : UInt8) : Nat := a.toNat + 256 * b.toNat + 65536 * c.toNat + 16777216 * d.toNat
def at4 (l : List UInt8) (p : Nat) : Nat := un4 (l.getD p 0) (l.getD (p + 1) 0) (l.getD (p + 2) 0) (l.getD (p + 3) 0)
theorem le4_length (n : Nat) : (le4 n).length = 4 := rfl
theorem toNat_ofNat' (n : Nat) (h : n < 256) : (UInt8.ofNat n).toNat = n := UInt8.toNat_ofNat_of_lt' (by simpa [UInt8.size] using h)
theorem un4_lt (a b c d : UInt8) : un4 a b c d < 4294967296 := by
  have := a.toNat_lt; have := b.toNat_lt; have := c.toNat_lt; have := d.toNat_lt
  unfold un4; omega
theorem at4_lt (l : List UInt8) (p : Nat) : at4 l p < 4294967296 := un4_lt _ _ _ _
theorem un4_le4 (n : Nat) (h : n < 4294967296) : un4 (UInt8.ofNat (n % 256)) (UInt8.ofNat (n / 256 % 256)) (UInt8.ofNat (n / 65536 % 256)) (UInt8.ofNat (n / 16777216 % 256)) = n := by
  unfold un4
  rw [toNat_ofNat' _ (Nat.mod_lt _ (by omega)), toNat_ofNat' _ (Nat.mod_lt _ (by omega)), toNat_ofNat' _ (Nat.mod_lt _ (by omega)), toNat_ofNat' _ (Nat.mod_lt _ (by omega))]
  omega
theorem getD_app (a b : List UInt8) (k : Nat) : (a ++ b).getD (a.length + k) 0 = b.getD k 0 := by
  simp only [List.getD_eq_getElem?_getD]; rw [List.getElem?_append_right (by omega), Nat.add_sub_cancel_left]
theorem at4_app (a b : List UInt8) (p : Nat) : at4 (a ++ b) (a.length + p) = at4 b p := by
  unfold at4
  rw [Nat.add_assoc, Nat.add_assoc, Nat.add_assoc, getD_app, getD_app, getD_app, getD_app]
theorem at4_app' (a b : List UInt8) (p q : Nat) (h : q = a.length + p) : at4 (a ++ b) q = at4 b p := h ▸ at4_app a b p
theorem at4_le4 (n : Nat) (h : n < 4294967296) (r : List UInt8) : at4 (le4 n ++ r) 0 = n := by
  unfold at4 le4
  simp only [List.cons_append, List.nil_append]
  exact un4_le4 n h
/-! ### A block -/
abbrev RefT := Int × Int × Unit
abbrev GBT := Int × RefT × List RefT × List UInt8 × Unit
def refOk (r : RefT) : Bool := decide (1 ≤ r.1) && decide (r.1 ≤ 512) && decide (0 ≤ r.2.1) && decide (r.2.1 ≤ 1073741824)
def GB.ref (b : GBT) : RefT := b.2.1
def GB.refs (b : GBT) : List RefT := b.2.2.1
def GB.body (b : GBT) : List UInt8 := b.2.2.2.1
def GB.ok (b : GBT) : Bool := decide (1 ≤ b.1) && decide (b.1 ≤ 15) && refOk b.2.1 && decide (b.2.2.1.length ≤ 16) && decide (b.2.2.2.1.length ≤ 860) && b.2.2.1.all refOk
def refBytes (r : RefT) : List UInt8 := le4 r.1.toNat ++ le4 r.2.1.toNat
def refsBytes (l : List RefT) : List UInt8 := l.flatMap refBytes
/-- What stands behind a block's seal. -/
def GB.head (b : GBT) : List UInt8 := le4 b.1.toNat ++ (le4 b.2.1.1.toNat ++ (le4 b.2.1.2.1.toNat ++ (le4 b.2.2.1.length ++ le4 b.2.2.2.1.length)))
def GB.tail (b : GBT) : List UInt8 := b.2.2.2.1 ++ List.replicate (860 - b.2.2.2.1.length) 0
def GB.rest (b : GBT) : List UInt8 := GB.head b ++ (refsBytes b.2.2.1 ++ (List.replicate (128 - 8 * b.2.2.1.length) 0 ++ GB.tail b))
def GB.bytes (b : GBT) : List UInt8 := Sha.sum (GB.rest b) ++ GB.rest b
theorem refsBytes_length (l : List RefT) : (refsBytes l).length = 8 * l.length := by
  induction l with
  | nil => rfl
  | cons r l ih => unfold refsBytes at *; rw [List.flatMap_cons, List.length_append, ih, List.length_cons]; simp [refBytes, le4_length]; omega
theorem GB.ok_spec {b : GBT} (h : GB.ok b = true) : (1 ≤ b.1 ∧ b.1 ≤ 15) ∧ refOk b.2.1 = true ∧ b.2.2.1.length ≤ 16 ∧ b.2.2.2.1.length ≤ 860 ∧ ∀ r ∈ b.2.2.1, refOk r = true := by
  simp only [GB.ok, Bool.and_eq_true, decide_eq_true_eq, List.all_eq_true] at h
  obtain ⟨⟨⟨⟨⟨h1, h2⟩, h3⟩, h4⟩, h5⟩, h6⟩ := h
  exact ⟨⟨h1, h2⟩, h3, h4, h5, h6⟩
theorem refOk_spec {r : RefT} (h : refOk r = true) : 1 ≤ r.1 ∧ r.1 ≤ 512 ∧ 0 ≤ r.2.1 ∧ r.2.1 ≤ 1073741824 := by
  simp only [refOk, Bool.and_eq_true, decide_eq_true_eq] at h
  exact ⟨h.1.1.1, h.1.1.2, h.1.2, h.2⟩
theorem GB.head_length (b : GBT) : (GB.head b).length = 20 := rfl
theorem GB.tail_length (b : GBT) (h : b.2.2.2.1.length ≤ 860) : (GB.tail b).length = 860 := by
  unfold GB.tail; rw [List.length_append, List.length_replicate]; omega
theorem GB.rest_length (b : GBT) (h1 : b.2.2.1.length ≤ 16) (h2 : b.2.2.2.1.length ≤ 860) : (GB.rest b).length = 1008 := by
  unfold GB.rest
  rw [List.length_append, List.length_append, List.length_append, GB.head_length, refsBytes_length, List.length_replicate, GB.tail_length b h2]; omega
theorem GB.bytes_length (b : GBT) (h1 : b.2.2.1.length ≤ 16) (h2 : b.2.2.2.1.length ≤ 860) : (GB.bytes b).length = 1024 := by
  unfold GB.bytes; rw [List.length_append, Sha.sum_len, GB.rest_length b h1 h2]
/-- What the bytes of a block say. -/
def GB.parse (raw : List UInt8) : GBT :=
  ((at4 raw 16 : Int), ((at4 raw 20 : Int), (at4 raw 24 : Int), ()), (List.range (at4 raw 28)).map (fun i => ((at4 raw (36 + 8 * i) : Int), (at4 raw (36 + 8 * i + 4) : Int), ())), (raw.drop 164).take (at4 raw 32), ())
def GB.none_ : GBT := (0, (0, 0, ()), [], [], ())
/-- Which block bytes are: the error's number, and the block. -/
def GB.read (raw : List UInt8) : Int × GBT :=
  if raw.length ≠ 1024 then (4, GB.none_)
  else if Sha.sum (raw.drop 16) ≠ raw.take 16 then (12, GB.none_)
  else if 16 < at4 raw 28 ∨ 860 < at4 raw 32 then (4, GB.none_)
  else if GB.ok (GB.parse raw) = true ∧ GB.rest (GB.parse raw) = raw.drop 16 then (0, GB.parse raw) else (4, GB.none_)
theorem at4_refs (l : List RefT) (r : List UInt8) (hok : ∀ x ∈ l, refOk x = true) : ∀ i, (h : i < l.length) → (at4 (refsBytes l ++ r) (8 * i) : Int) = l[i].1 ∧ (at4 (refsBytes l ++ r) (8 * i + 4) : Int) = l[i].2.1 := by
  induction l with
  | nil => intro i h; simp at h
  | cons x l ih =>
    intro i h
    have e : refsBytes (x :: l) ++ r = le4 x.1.toNat ++ (le4 x.2.1.toNat ++ (refsBytes l ++ r)) := by simp [refsBytes, refBytes]
    rw [e]
    obtain ⟨h1, h2, h3, h4⟩ := refOk_spec (hok x (by simp))
    cases i with
    | zero =>
      refine ⟨?_, ?_⟩
      · rw [Nat.mul_zero, at4_le4 _ (by omega)]; simp; omega
      · rw [at4_app' _ _ 0 _ (by simp [le4_length]), at4_le4 _ (by omega)]; simp; omega
    | succ i =>
      obtain ⟨e1, e2⟩ := ih (fun x hx => hok x (by simp [hx])) i (by simpa using h)
      refine ⟨?_, ?_⟩
      · rw [at4_app' _ _ (8 * i + 4) _ (by simp [le4_length]; omega), at4_app' _ _ (8 * i) _ (by simp [le4_length]; omega), e1]; simp
      · rw [at4_app' _ _ (8 * i + 8) _ (by simp [le4_length]; omega), at4_app' _ _ (8 * i + 4) _ (by simp [le4_length]; omega), e2]; simp
theorem GB.parse_bytes (b : GBT) (h : GB.ok b = true) : GB.parse (GB.bytes b) = b := by
  obtain ⟨⟨k1, k2⟩, hr, hn, hb, hall⟩ := GB.ok_spec h
  obtain ⟨r1, r2, r3, r4⟩ := refOk_spec hr
  obtain ⟨kind, ⟨addr, stamp, ⟨⟩⟩, refs, body, ⟨⟩⟩ := b
  simp only at k1 k2 r1 r2 r3 r4 hn hb hall
  have e0 : GB.bytes (kind, (addr, stamp, ()), refs, body, ()) = Sha.sum (GB.rest (kind, (addr, stamp, ()), refs, body, ())) ++ (le4 kind.toNat ++ (le4 addr.toNat ++ (le4 stamp.toNat ++ (le4 refs.length ++ (le4 body.length ++ (refsBytes refs ++ (List.replicate (128 - 8 * refs.length) 0 ++ (body ++ List.replicate (860 - body.length) 0)))))))) := by
    simp [GB.bytes, GB.rest, GB.head, GB.tail]
  generalize Sha.sum (GB.rest (kind, (addr, stamp, ()), refs, body, ())) = S at e0
  have hS : ∃ S : List UInt8, S.length = 16 ∧ GB.bytes (kind, (addr, stamp, ()), refs, body, ()) = S ++ (le4 kind.toNat ++ (le4 addr.toNat ++ (le4 stamp.toNat ++ (le4 refs.length ++ (le4 body.length ++ (refsBytes refs ++ (List.replicate (128 - 8 * refs.length) 0 ++ (body ++ List.replicate (860 - body.length) 0)))))))) :=
    ⟨Sha.sum (GB.rest (kind, (addr, stamp, ()), refs, body, ())), Sha.sum_len _, by simp [GB.bytes, GB.rest, GB.head, GB.tail]⟩
  clear e0 S
  obtain ⟨S, hS, e⟩ := hS
  rw [e]
  have a16 : at4 (S ++ (le4 kind.toNat ++ (le4 addr.toNat ++ (le4 stamp.toNat ++ (le4 refs.length ++ (le4 body.length ++ (refsBytes refs ++ (List.replicate (128 - 8 * refs.length) 0 ++ (body ++ List.replicate (860 - body.length) 0))))))))) 16 = kind.toNat := by
    rw [at4_app' _ _ 0 _ (by omega), at4_le4 _ (by omega)]
  have a20 : at4 (S ++ (le4 kind.toNat ++ (le4 addr.toNat ++ (le4 stamp.toNat ++ (le4 refs.length ++ (le4 body.length ++ (refsBytes refs ++ (List.replicate (128 - 8 * refs.length) 0 ++ (body ++ List.replicate (860 - body.length) 0))))))))) 20 = addr.toNat := by
    rw [at4_app' _ _ 4 _ (by omega), at4_app' _ _ 0 _ (by simp [le4_length]), at4_le4 _ (by omega)]
  have a24 : at4 (S ++ (le4 kind.toNat ++ (le4 addr.toNat ++ (le4 stamp.toNat ++ (le4 refs.length ++ (le4 body.length ++ (refsBytes refs ++ (List.replicate (128 - 8 * refs.length) 0 ++ (body ++ List.replicate (860 - body.length) 0))))))))) 24 = stamp.toNat := by
    rw [at4_app' _ _ 8 _ (by omega), at4_app' _ _ 4 _ (by simp [le4_length]), at4_app' _ _ 0 _ (by simp [le4_length]), at4_le4 _ (by omega)]
  have a28 : at4 (S ++ (le4 kind.toNat ++ (le4 addr.toNat ++ (le4 stamp.toNat ++ (le4 refs.length ++ (le4 body.length ++ (refsBytes refs ++ (List.replicate (128 - 8 * refs.length) 0 ++ (body ++ List.replicate (860 - body.length) 0))))))))) 28 = refs.length := by
    rw [at4_app' _ _ 12 _ (by omega), at4_app' _ _ 8 _ (by simp [le4_length]), at4_app' _ _ 4 _ (by simp [le4_length]), at4_app' _ _ 0 _ (by simp [le4_length]), at4_le4 _ (by omega)]
  have a32 : at4 (S ++ (le4 kind.toNat ++ (le4 addr.toNat ++ (le4 stamp.toNat ++ (le4 refs.length ++ (le4 body.length ++ (refsBytes refs ++ (List.replicate (128 - 8 * refs.length) 0 ++ (body ++ List.replicate (860 - body.length) 0))))))))) 32 = body.length := by
    rw [at4_app' _ _ 16 _ (by omega), at4_app' _ _ 12 _ (by simp [le4_length]), at4_app' _ _ 8 _ (by simp [le4_length]), at4_app' _ _ 4 _ (by simp [le4_length]), at4_app' _ _ 0 _ (by simp [le4_length]), at4_le4 _ (by omega)]
  have hsplit : S ++ (le4 kind.toNat ++ (le4 addr.toNat ++ (le4 stamp.toNat ++ (le4 refs.length ++ (le4 body.length ++ (refsBytes refs ++ (List.replicate (128 - 8 * refs.length) 0 ++ (body ++ List.replicate (860 - body.length) 0)))))))) = (S ++ GB.head (kind, (addr, stamp, ()), refs, body, ())) ++ (refsBytes refs ++ (List.replicate (128 - 8 * refs.length) 0 ++ (body ++ List.replicate (860 - body.length) 0))) := by
    simp [GB.head]
  have hpre : (S ++ GB.head (kind, (addr, stamp, ()), refs, body, ())).length = 36 := by rw [List.length_append, hS]; rfl
  have aref : ∀ i, (h : i < refs.length) → ∀ j, j < 8 → at4 (S ++ (le4 kind.toNat ++ (le4 addr.toNat ++ (le4 stamp.toNat ++ (le4 refs.length ++ (le4 body.length ++ (refsBytes refs ++ (List.replicate (128 - 8 * refs.length) 0 ++ (body ++ List.replicate (860 - body.length) 0))))))))) (36 + 8 * i + j) = at4 (refsBytes refs ++ (List.replicate (128 - 8 * refs.length) 0 ++ (body ++ List.replicate (860 - body.length) 0))) (8 * i + j) := by
    intro i h j hj
    rw [hsplit, at4_app' _ _ (8 * i + j) _ (by rw [hpre]; omega)]
  unfold GB.parse
  rw [a16, a20, a24, a28, a32]
  have hrefs : (List.range refs.length).map (fun i => ((at4 (S ++ (le4 kind.toNat ++ (le4 addr.toNat ++ (le4 stamp.toNat ++ (le4 refs.length ++ (le4 body.length ++ (refsBytes refs ++ (List.replicate (128 - 8 * refs.length) 0 ++ (body ++ List.replicate (860 - body.length) 0))))))))) (36 + 8 * i) : Int), (at4 (S ++ (le4 kind.toNat ++ (le4 addr.toNat ++ (le4 stamp.toNat ++ (le4 refs.length ++ (le4 body.length ++ (refsBytes refs ++ (List.replicate (128 - 8 * refs.length) 0 ++ (body ++ List.replicate (860 - body.length) 0))))))))) (36 + 8 * i + 4) : Int), ())) = refs := by
    apply List.ext_getElem
    · simp
    · intro i h1 h2
      simp only [List.getElem_map, List.getElem_range]
      obtain ⟨e1, e2⟩ := at4_refs refs (List.replicate (128 - 8 * refs.length) 0 ++ (body ++ List.replicate (860 - body.length) 0)) hall i h2
      have f1 := aref i h2 0 (by omega)
      have f2 := aref i h2 4 (by omega)
      rw [Nat.add_zero] at f1
      rw [Nat.add_zero] at f1
      rw [f1, f2, e1, e2]
  rw [hrefs]
  have hbody : ((S ++ (le4 kind.toNat ++ (le4 addr.toNat ++ (le4 stamp.toNat ++ (le4 refs.length ++ (le4 body.length ++ (refsBytes refs ++ (List.replicate (128 - 8 * refs.length) 0 ++ (body ++ List.replicate (860 - body.length) 0))))))))).drop 164).take body.length = body := by
    have e1 : S ++ (le4 kind.toNat ++ (le4 addr.toNat ++ (le4 stamp.toNat ++ (le4 refs.length ++ (le4 body.length ++ (refsBytes refs ++ (List.replicate (128 - 8 * refs.length) 0 ++ (body ++ List.replicate (860 - body.length) 0)))))))) = ((S ++ GB.head (kind, (addr, stamp, ()), refs, body, ())) ++ (refsBytes refs ++ List.replicate (128 - 8 * refs.length) 0)) ++ (body ++ List.replicate (860 - body.length) 0) := by
      rw [hsplit]; simp
    have hl : ((S ++ GB.head (kind, (addr, stamp, ()), refs, body, ())) ++ (refsBytes refs ++ List.replicate (128 - 8 * refs.length) 0)).length = 164 := by
      rw [List.length_append, hpre, List.length_append, refsBytes_length, List.length_replicate]; omega
    rw [e1, ← hl, List.drop_left, List.take_left]
  rw [hbody]
  simp only [Prod.mk.injEq, and_true]
  omega
theorem GB.read_bytes (b : GBT) (h : GB.ok b = true) : GB.read (GB.bytes b) = (0, b) := by
  obtain ⟨_, _, hn, hb, _⟩ := GB.ok_spec h
  have hp := GB.parse_bytes b h
  have e1 : (GB.bytes b).drop 16 = GB.rest b := by unfold GB.bytes; rw [← Sha.sum_len (GB.rest b), List.drop_left]
  have e2 : (GB.bytes b).take 16 = Sha.sum (GB.rest b) := by unfold GB.bytes; rw [← Sha.sum_len (GB.rest b), List.take_left]
  have e3 : at4 (GB.bytes b) 28 = b.2.2.1.length := by
    have := congrArg (fun x : GBT => x.2.2.1.length) hp
    simpa [GB.parse] using this
  have e4 : at4 (GB.bytes b) 32 = b.2.2.2.1.length ∨ at4 (GB.bytes b) 32 > 860 := by
    have := congrArg (fun x : GBT => x.2.2.2.1.length) hp
    simp only [GB.parse, List.length_take, List.length_drop, GB.bytes_length b hn hb] at this
    omega
  have e5 : at4 (GB.bytes b) 32 = b.2.2.2.1.length := by
    have hh : GB.bytes b = (Sha.sum (GB.rest b) ++ (le4 b.1.toNat ++ (le4 b.2.1.1.toNat ++ (le4 b.2.1.2.1.toNat ++ le4 b.2.2.1.length)))) ++ (le4 b.2.2.2.1.length ++ (refsBytes b.2.2.1 ++ (List.replicate (128 - 8 * b.2.2.1.length) 0 ++ GB.tail b))) := by
      conv => lhs; unfold GB.bytes
      conv => lhs; rhs; unfold GB.rest GB.head
      simp
    rw [hh, at4_app' _ _ 0 _ (by simp [le4_length, Sha.sum_len]), at4_le4 _ (by omega)]
  clear e4
  unfold GB.read
  rw [if_neg (by rw [GB.bytes_length b hn hb]; simp), e1, e2, if_neg (by simp), e3, e5, if_neg (by omega), hp, if_pos ⟨h, rfl⟩]
end Go.Proofs.YtgkljncigbiffaaDoor

/- Loads of whole arrays and structs out of the middle of a block. Plain facts. Condition: the cells are known. -/
namespace Go.Proofs.YtgkljncigbiffaaDoor
open Go.RowKit
/-- A load of a whole array or struct out of the middle of a block. -/
theorem wpList_load_mid {P : Program} {w : World} {Q : Exit → Act → World → Prop} {ops : Array Oper} {rest : List Oper} {o : Oper} {a : Act} {b off : Nat} {cs : List Value} (hb : w.rangeAt b off cs) (hgd : o.guard = none) (ty : TypeId) (x : Operand) (ho : o.op = .load ty x)
    (hx : a.eval x = .pointer (some ⟨b, off, none⟩)) (d : TypeDesc) (hu : P.underlying ty = some d) (hd : d.isRow = true) {n : Nat} (hi : (P.info? ty).map (·.size) = some n) (hn : cs.length = n)
    (h : wpList P ops Q rest (a.put o.dst (.agg cs.toArray)) w) : wpList P ops Q (o :: rest) a w :=
  wpList_run (.agg cs.toArray) hgd (by
    unfold execOp
    simp only [ho, hx, Instr.loadAt, Instr.sureAddr, Sem.run_bind, Sem.run_pure, Result.andThen_ok, run_loadVar_mid w b off ty cs d hb hu hd (hn ▸ hi)]) h
theorem range2 {w : World} {b off : Nat} {u v : Value} (h1 : w.cell? ⟨b, off, none⟩ = some u) (h2 : w.cell? ⟨b, off + 1, none⟩ = some v) : w.rangeAt b off [u, v] := fun j x hx => by
  match j with
  | 0 => simp at hx; subst hx; exact h1
  | 1 => simp at hx; subst hx; exact h2
theorem Blk.range {w : World} {b : Nat} {t : TypeId} {cs : Array Value} (h : Blk w b t cs) (o : Nat) (l : List Value) (hl : ∀ j v, l[j]? = some v → cs[o + j]? = some v) : w.rangeAt b o l := fun j v hv => h.at_ (o + j) (hl j v hv)
end Go.Proofs.YtgkljncigbiffaaDoor

/- Four bytes read as a number. Plain facts. -/
namespace Go.Proofs.YtgkljncigbiffaaDoor
open Go.RowKit
theorem or_sum (a b k : Nat) (n : Nat) (hn : n = 2 ^ k) (ha : a < n) : a ||| (b * n) = a + b * n := by
  subst hn
  rw [Nat.mul_comm, Nat.or_comm, ← Nat.two_pow_add_eq_or_of_lt ha, Nat.add_comm]
theorem i64_or_nat (a b : Nat) (ha : a < 9223372036854775808) (hb : b < 9223372036854775808) : bits .or .i64 (a : Int) (b : Int) = ((a ||| b : Nat) : Int) := by
  have h2 : a ||| b < 2 ^ 63 := Nat.or_lt_two_pow (by omega) (by omega)
  show IntKind.i64.wrap ((BitVec.ofInt 64 (a : Int) ||| BitVec.ofInt 64 (b : Int)).toNat : Int) = _
  rw [BitVec.toNat_or, ofInt_u64 a (by omega), ofInt_u64 b (by omega), IntWalk.i64_left, IntWalk.wrap64_in _ ⟨by omega, by omega⟩]
theorem or4 (x0 x1 x2 x3 : UInt8) : bits BinOp.or IntKind.i64 (bits BinOp.or IntKind.i64 (bits BinOp.or IntKind.i64 (wrap64 (iu8 x0)) (wrap64 (wrap64 (iu8 x1) * 256))) (wrap64 (wrap64 (iu8 x2) * 65536))) (wrap64 (wrap64 (iu8 x3) * 16777216)) = (un4 x0 x1 x2 x3 : Int) := by
  have h0 := x0.toNat_lt; have h1 := x1.toNat_lt; have h2 := x2.toNat_lt; have h3 := x3.toNat_lt
  unfold iu8
  rw [IntWalk.wrap64_in (x0.toNat : Int) (by omega), IntWalk.wrap64_in (x1.toNat : Int) (by omega), IntWalk.wrap64_in (x2.toNat : Int) (by omega), IntWalk.wrap64_in (x3.toNat : Int) (by omega),
    IntWalk.wrap64_in ((x1.toNat : Int) * 256) (by omega), IntWalk.wrap64_in ((x2.toNat : Int) * 65536) (by omega), IntWalk.wrap64_in ((x3.toNat : Int) * 16777216) (by omega)]
  rw [show (x1.toNat : Int) * 256 = ((x1.toNat * 256 : Nat) : Int) by simp, show (x2.toNat : Int) * 65536 = ((x2.toNat * 65536 : Nat) : Int) by simp, show (x3.toNat : Int) * 16777216 = ((x3.toNat * 16777216 : Nat) : Int) by simp]
  rw [i64_or_nat _ _ (by omega) (by omega), or_sum _ _ 8 256 (by decide) (by omega), i64_or_nat _ _ (by omega) (by omega), or_sum _ _ 16 65536 (by decide) (by omega), i64_or_nat _ _ (by omega) (by omega), or_sum _ _ 24 16777216 (by decide) (by omega)]
  unfold un4
  omega
end Go.Proofs.YtgkljncigbiffaaDoor

/- The small functions of the layer of blocks: may a ref be one; may a block; a number laid, a number read. Conditions: numbers are Go's, lists can be read. -/
namespace Go.Proofs.YtgkljncigbiffaaDoor
open Go.RowKit
set_option maxHeartbeats 400000 in
theorem place_any (a s : Int) (w : World) : Calls Tryd.prog 125 #[.agg #[.int .i64 a, .int .i64 s]] w fun e w' => e = .returned (.bool (refOk (a, s, ()))) ∧ Below w.heap.size w w' := by
  go_enter Tryd.func125, Tryd.ntmps125
  go_wp2
  all_goals
    go_ret
    refine ⟨?_, (Below.refl _ _).alloc (Nat.le_refl _) _⟩
    unfold refOk
    simp [*]
    try omega
set_option maxHeartbeats 1000000 in
theorem number_any (A : Option Addr) (c p : Nat) (l : List UInt8) (hp : p + 4 ≤ l.length) (hl : l.length ≤ 2000) (w : World) (hb : Bytes w A l) :
    Calls Tryd.prog 86 #[.slice A l.length c, .int .i64 p] w fun e w' => e = .returned (.int .i64 (at4 l p)) ∧ Below w.heap.size w w' := by
  obtain ⟨b, off, rfl, hbl, hc⟩ := hb.at_ (by omega)
  have d0 := hc p (by omega)
  have d1 := hc (p + 1) (by omega)
  have d2 := hc (p + 2) (by omega)
  have d3 := hc (p + 3) (by omega)
  clear hc hb
  unfold at4
  generalize l.getD p 0 = x0 at d0 ⊢
  generalize l.getD (p + 1) 0 = x1 at d1 ⊢
  generalize l.getD (p + 2) 0 = x2 at d2 ⊢
  generalize l.getD (p + 3) 0 = x3 at d3 ⊢
  go_enter Tryd.func86, Tryd.ntmps86
  go_wp2
  go_quiet (fail)
  rw [or4]
  go_wp2
  go_ret
  exact ⟨rfl, below_drewN (Below.refl _ _) _⟩
/-- A list of refs can be read. -/
def Refs (w : World) (A : Option Addr) (l : List RefT) : Prop :=
  0 < l.length → ∃ b off, A = some ⟨b, off, none⟩ ∧ b < w.heap.size ∧ ∀ i, (h : i < l.length) → w.cell? ⟨b, off + i * 2, none⟩ = some (.int .i64 l[i].1) ∧ w.cell? ⟨b, off + i * 2 + 1, none⟩ = some (.int .i64 l[i].2.1)
theorem Refs.below {w w' : World} {A : Option Addr} {l : List RefT} (h : Refs w A l) (hb : Below w.heap.size w w') : Refs w' A l := fun hp => by
  obtain ⟨b, off, e, hlt, hc⟩ := h hp
  exact ⟨b, off, e, Nat.lt_of_lt_of_le hlt hb.size, fun i hi => ⟨(hb.cell (p := ⟨b, off + i * 2, none⟩) hlt).trans (hc i hi).1, (hb.cell (p := ⟨b, off + i * 2 + 1, none⟩) hlt).trans (hc i hi).2⟩⟩
instance {w w' : World} {A : Option Addr} {l : List RefT} : KeepsTo w w' (Refs w A l) (Refs w' A l) := ⟨fun hb h => h.below hb⟩
theorem size_ref : (Tryd.prog.info? 33).map (·.size) = some 2 := by kernel_rfl
/-- What the look at a block answers. -/
def GB.code (b : GBT) : Int := if GB.ok b then 0 else 2
theorem GB.code_ok {b : GBT} (h : GB.ok b = true) : GB.code b = 0 := by unfold GB.code; rw [if_pos h]
theorem GB.code_no {b : GBT} (h : GB.ok b = false) : GB.code b = 2 := by unfold GB.code; rw [if_neg (by rw [h]; simp)]
/-- Ahead of each ref that is looked at. -/
def CheckRel (w : World) (l : List RefT) (v : Value) (wr : World) : Prop :=
  ∃ i : Nat, i ≤ l.length ∧ v = .int .i64 (i : Int) ∧ (∀ j, (h : j < i) → (h2 : j < l.length) → refOk l[j] = true) ∧ Below w.heap.size w wr
set_option maxHeartbeats 1000000 in
set_option maxRecDepth 100000 in
theorem check_any (k ra rs : Int) (A B : Option Addr) (c d : Nat) (l : List RefT) (body : List UInt8) (hl : l.length ≤ 1000) (hb : body.length ≤ 5000) (w : World) (hr : Refs w A l) :
    Calls Tryd.prog 87 #[.agg #[.int .i64 k, .int .i64 ra, .int .i64 rs, .slice A l.length c, .slice B body.length d]] w fun e w' => e = .returned (.int .i64 (GB.code (k, (ra, rs, ()), l, body, ()))) ∧ Below w.heap.size w w' := by
  have hB0 : Below w.heap.size w (w.alloc (.cells #[.int .i64 k, .int .i64 ra, .int .i64 rs, .slice A l.length c, .slice B body.length d] 91)) := (Below.refl _ _).alloc (Nat.le_refl _) _
  have hr0 := Refs.below hr hB0
  by_cases h1 : k < 1
  · have hok : Hid (GB.ok (k, (ra, rs, ()), l, body, ()) = false) := Lib.hid (by unfold GB.ok; simp; omega)
    go_enter Tryd.func87, Tryd.ntmps87
    go_wp2
    go_ret
    exact ⟨ret_int (GB.code_no hok.out).symm, hB0⟩
  by_cases h2 : 15 < k
  · have hok : Hid (GB.ok (k, (ra, rs, ()), l, body, ()) = false) := Lib.hid (by unfold GB.ok; simp; omega)
    go_enter Tryd.func87, Tryd.ntmps87
    go_wp2
    go_ret
    exact ⟨ret_int (GB.code_no hok.out).symm, hB0⟩
  go_enter Tryd.func87, Tryd.ntmps87
  go_wp2_with fail
  have hg := Blk.new w 91 #[.int .i64 k, .int .i64 ra, .int .i64 rs, .slice A l.length c, .slice B body.length d]
  generalize w.alloc (.cells #[.int .i64 k, .int .i64 ra, .int .i64 rs, .slice A l.length c, .slice B body.length d] 91) = w1 at hg hB0 hr0 ⊢
  refine (place_any ra rs w1).mono ?_
  rintro e w2 ⟨rfl, hbx⟩
  (replace hr0 := keep hbx hr0; replace hg := keep hbx hg; replace hB0 := hB0.trans (hbx.mono hB0.size); clear hbx)
  have d2 := hg.cell 2
  have d3 := hg.cell 3
  have d4 := hg.cell 4
  cases hplace : refOk (ra, rs, ())
  · have hok : Hid (GB.ok (k, (ra, rs, ()), l, body, ()) = false) := Lib.hid (by unfold GB.ok; simp [hplace])
    clear hplace
    go_wp2
    go_ret
    exact ⟨ret_int (GB.code_no hok.out).symm, hB0⟩
  by_cases h3 : 16 < l.length
  · have hok : Hid (GB.ok (k, (ra, rs, ()), l, body, ()) = false) := Lib.hid (by unfold GB.ok; simp; omega)
    clear hplace
    go_wp2
    go_ret
    exact ⟨ret_int (GB.code_no hok.out).symm, hB0⟩
  by_cases h4 : 860 < body.length
  · have hok : Hid (GB.ok (k, (ra, rs, ()), l, body, ()) = false) := Lib.hid (by unfold GB.ok; simp; omega)
    clear hplace
    go_wp2
    go_ret
    exact ⟨ret_int (GB.code_no hok.out).symm, hB0⟩
  have hok : Hid (GB.ok (k, (ra, rs, ()), l, body, ()) = l.all refOk) := Lib.hid (by unfold GB.ok; simp [hplace]; omega)
  clear hplace
  clear d2 d3 d4
  have d2 : w2.cell? ⟨w.heap.size, 3, none⟩ = some (.slice A l.length c) := hg.at_ 3 (by simp)
  have d3 : w2.cell? ⟨w.heap.size, 4, none⟩ = some (.slice B body.length d) := hg.at_ 4 (by simp)
  go_wp2_with fail
  go_loopw [34] (fun v wr => CheckRel w l v wr) (fun v _ => l.length - (intOf v).toNat)
  case atStart => exact ⟨0, by omega, rfl, fun j h => absurd h (by omega), hB0⟩
  case round =>
    clear d2 d3 hg hr0 hB0
    obtain ⟨i, hi, rfl, hall, hBr⟩ := hrel
    have HA := Lib.hid hall
    clear hall
    by_cases hlt : i < l.length
    · have hrr := Refs.below hr hBr
      obtain ⟨b, off, rfl, hbl, hcells⟩ := hrr (by omega)
      obtain ⟨d1, d2⟩ := hcells i hlt
      have hR := Lib.hid (show l[i] = (l[i].1, l[i].2.1, ()) from rfl)
      generalize hx : l[i].1 = x at d1 hR
      generalize hy : l[i].2.1 = y at d2 hR
      clear hx hy hcells hrr
      go_wp2_with (first
        | ((with_reducible show wpList _ _ _ ((⟨some 40, _, _, _, _, _⟩ : Oper) :: _) _ _); refine wpList_load_mid (o := ⟨some 40, _, _, _, _, _⟩) (range2 (b := b) (off := off + i * 2) (u := .int .i64 x) (v := .int .i64 y) (d1) (d2)) (by rfl) _ _ (by rfl) (by rfl) _ Tryd.underlying33 (by rfl) size_ref (by rfl) ?_)
        | fail)
      have hbz := (Below.refl wr.heap.size wr).alloc (Nat.le_refl _) (.cells #[.int .i64 x, .int .i64 y] 33)
      generalize wr.alloc (.cells #[.int .i64 x, .int .i64 y] 33) = w4 at hbz ⊢
      refine (place_any x y w4).mono ?_
      rintro e w5 ⟨rfl, hbx⟩
      have hB5 := (hBr.trans (hbz.mono hBr.size)).trans (hbx.mono (by have := hBr.size; have := hbz.size; omega))
      clear d1 d2 hbz hbx hbl
      cases hpl : refOk (x, y, ())
      · have hno : Hid (GB.ok (k, (ra, rs, ()), l, body, ()) = false) := Lib.hid (by
          rw [hok.out]
          refine List.all_eq_false.2 ⟨l[i], List.getElem_mem hlt, ?_⟩
          rw [hR.out, hpl]; simp)
        clear hpl
        go_wp2
        go_ret
        exact ⟨ret_int (GB.code_no hno.out).symm, hB5⟩
      · have hPL := Lib.hid hpl
        clear hpl
        go_wp2
        go_roundw
        case rel => exact ⟨i + 1, by omega, by go_num, fun j hj h2 => by
          rcases Nat.lt_or_ge j i with h | h
          · exact HA.out j h h2
          · obtain rfl : j = i := by omega
            rw [hR.out]; exact hPL.out, hB5⟩
        case measure => simp [intOf]; omega
    · obtain rfl : i = l.length := by omega
      have hyes : Hid (GB.ok (k, (ra, rs, ()), l, body, ()) = true) := Lib.hid (by
        rw [hok.out]
        exact List.all_eq_true.2 fun r hr => by
          obtain ⟨j, hj, rfl⟩ := List.mem_iff_getElem.1 hr
          exact HA.out j hj hj)
      go_wp2
      go_ret
      exact ⟨ret_int (GB.code_ok hyes.out).symm, hBr⟩
end Go.Proofs.YtgkljncigbiffaaDoor

/- Four bytes of a number laid at a place of a list. Plain facts. -/
namespace Go.Proofs.YtgkljncigbiffaaDoor
open Go.RowKit
def put4 (L : List UInt8) (off n : Nat) : List UInt8 := L.take off ++ (le4 n ++ L.drop (off + 4))
def put4r (L : List UInt8) (off n j : Nat) : List UInt8 := L.take off ++ ((le4 n).take j ++ L.drop (off + j))
theorem put4r_zero (L : List UInt8) (off n : Nat) : put4r L off n 0 = L := by unfold put4r; simp
theorem put4r_length (L : List UInt8) (off n j : Nat) (h : off + 4 ≤ L.length) (hj : j ≤ 4) : (put4r L off n j).length = L.length := by
  unfold put4r; rw [List.length_append, List.length_append, List.length_take, List.length_take, List.length_drop, le4_length]; omega
theorem put4r_set (L : List UInt8) (off n j : Nat) (h : off + 4 ≤ L.length) (hj : j < 4) (b : UInt8) (hb : b = (le4 n).getD j 0) :
    ((put4r L off n j).map u8v).toArray.setIfInBounds (off + j) (.int .u8 (iu8 b)) = ((put4r L off n (j + 1)).map u8v).toArray := by
  apply Array.ext'
  simp only [List.setIfInBounds_toArray]
  have e : Value.int .u8 (iu8 b) = u8v b := rfl
  rw [e, ← List.map_set]
  congr 1
  subst hb
  unfold put4r
  have h1 : (L.take off).length = off := by rw [List.length_take]; omega
  rw [List.set_append_right _ _ (by omega), h1, Nat.add_sub_cancel_left]
  congr 1
  have h2 : ((le4 n).take j).length = j := by rw [List.length_take, le4_length]; omega
  rw [List.set_append_right _ _ (by omega), h2, Nat.sub_self]
  have hd : L.drop (off + j) = L[off + j]'(by omega) :: L.drop (off + (j + 1)) := by
    rw [List.drop_eq_getElem_cons (by omega)]; rfl
  rw [hd, List.set_cons_zero]
  have ht : (le4 n).take (j + 1) = (le4 n).take j ++ [(le4 n).getD j 0] := by
    rw [List.take_succ_eq_append_getElem (by rw [le4_length]; omega)]
    congr 2
    simp [List.getD, show j < (le4 n).length by rw [le4_length]; omega]
  rw [ht]; simp
theorem le4_v0 (n : Nat) : (n : Int) % 256 = iu8 ((le4 n).getD 0 0) := by show _ = iu8 (UInt8.ofNat (n % 256)); rw [iu8_ofNat_mod]
theorem le4_v1 (n : Nat) : (n : Int) / 256 % 256 = iu8 ((le4 n).getD 1 0) := by show _ = iu8 (UInt8.ofNat (n / 256 % 256)); rw [iu8_ofNat_mod]; omega
theorem le4_v2 (n : Nat) : (n : Int) / 65536 % 256 = iu8 ((le4 n).getD 2 0) := by show _ = iu8 (UInt8.ofNat (n / 65536 % 256)); rw [iu8_ofNat_mod]; omega
theorem le4_v3 (n : Nat) (h : n < 4294967296) : (n : Int) / 16777216 = iu8 ((le4 n).getD 3 0) := by show _ = iu8 (UInt8.ofNat (n / 16777216 % 256)); rw [iu8_ofNat_mod]; omega
end Go.Proofs.YtgkljncigbiffaaDoor

/- A number laid at a cursor's front. Conditions: the cursor lies in a block of bytes, with room for four. -/
namespace Go.Proofs.YtgkljncigbiffaaDoor
open Go.RowKit
/-- Ahead of each byte. -/
def FourRel (w : World) (g off n : Nat) (t : TypeId) (L : List UInt8) (v : Value) (wr : World) : Prop :=
  ∃ j : Nat, j ≤ 4 ∧ v = .int .i64 (j : Int) ∧ Blk wr g t ((put4r L off n j).map u8v).toArray ∧ Upd g w wr
set_option maxHeartbeats 1000000 in
theorem gbFour_any (g off len cap n : Nat) (t : TypeId) (L : List UInt8) (h4 : 4 ≤ len) (hL : off + 4 ≤ L.length) (hn : n < 4294967296) (w : World) (hb : Blk w g t (L.map u8v).toArray) :
    Calls Tryd.prog 126 #[.slice (some ⟨g, off, none⟩) len cap, .int .i64 n] w fun e w' =>
      e = .returned (.slice (some ⟨g, (if cap = 4 then off else off + 4), none⟩) (len - 4) (cap - 4)) ∧ Blk w' g t ((put4 L off n).map u8v).toArray ∧ Upd g w w' := by
  go_enter Tryd.func126, Tryd.ntmps126
  go_wp2
  go_loopw [6] (fun v wr => FourRel w g off n t L v wr) (fun v _ => 4 - (intOf v).toNat)
  case atStart => exact ⟨0, by omega, rfl, by rw [put4r_zero]; exact hb, Upd.refl _ _⟩
  case round =>
    obtain ⟨j, hj, rfl, hg, hu⟩ := hrel
    clear hb
    by_cases hlt : j < 4
    · have fz := hg.frozen (off + j)
      have hjl : off + j < (put4r L off n j).length := by rw [put4r_length L off n j hL (by omega)]; omega
      have dz : ∃ v, wr.cell? ⟨g, off + j, none⟩ = some v := ⟨_, (hg.cell (off + j)).trans (by rw [List.getElem?_toArray, List.getElem?_map, List.getElem?_eq_getElem hjl]; rfl)⟩
      obtain ⟨v, dz⟩ := dz
      have hs := put4r_set L off n j hL hlt _ rfl
      have ho := hg.set_ (off + j) (.int .u8 (iu8 ((le4 n).getD j 0)))
      rw [hs] at ho
      have HO := Lib.hid ho
      have hu' := Lib.hid (hu.set (off + j) (.int .u8 (iu8 ((le4 n).getD j 0))))
      clear hs ho hjl hg
      have hcase : j = 0 ∨ j = 1 ∨ j = 2 ∨ j = 3 := by omega
      rcases hcase with rfl | rfl | rfl | rfl
      · rw [Nat.add_zero] at fz dz
        go_wp2
        rw [le4_v0]
        exact ⟨⟨1, by omega, rfl, HO.out, hu'.out⟩, by simp [intOf]⟩
      · go_wp2
        rw [le4_v1]
        exact ⟨⟨2, by omega, rfl, HO.out, hu'.out⟩, by simp [intOf]⟩
      · go_wp2
        rw [le4_v2]
        exact ⟨⟨3, by omega, rfl, HO.out, hu'.out⟩, by simp [intOf]⟩
      · go_wp2
        rw [le4_v3 n hn]
        exact ⟨⟨4, by omega, rfl, HO.out, hu'.out⟩, by simp [intOf]⟩
    · obtain rfl : j = 4 := by omega
      have HG := Lib.hid hg
      clear hg
      go_wp2
      all_goals
        go_ret
        first
          | exact ⟨by rw [if_pos ‹_›]; rfl, HG.out, hu⟩
          | exact ⟨rfl, HG.out, hu⟩
end Go.Proofs.YtgkljncigbiffaaDoor

/- A variable of 1,024 bytes: its noughts. No condition. -/
namespace Go.Proofs.YtgkljncigbiffaaDoor
open Go.RowKit
def zero1024 : Array Value := arr 1024 fun _ => .int .u8 0
theorem size1024 : (Tryd.prog.info? 161).map (·.size) = some 1024 := by kernel_rfl
theorem alloc1024 (w : World) : (zeroValue 161).run Tryd.prog w = .ok (.agg zero1024) w := by
  have h : (Tryd.prog.info? 161).map (fun i => (i.zero, i.size)) = some (some (.agg zero1024), 1024) := by kernel_rfl
  exact (zero_of_info h).1 w
theorem idx5 (x0 x1 x2 x3 x4 : Value) (w : World) : (Instr.index 192 (.agg #[x0, x1, x2, x3, x4]) (.int .i64 0)).run Tryd.prog w = .ok x0 w ∧ (Instr.index 192 (.agg #[x0, x1, x2, x3, x4]) (.int .i64 1)).run Tryd.prog w = .ok x1 w ∧ (Instr.index 192 (.agg #[x0, x1, x2, x3, x4]) (.int .i64 2)).run Tryd.prog w = .ok x2 w ∧ (Instr.index 192 (.agg #[x0, x1, x2, x3, x4]) (.int .i64 3)).run Tryd.prog w = .ok x3 w ∧ (Instr.index 192 (.agg #[x0, x1, x2, x3, x4]) (.int .i64 4)).run Tryd.prog w = .ok x4 w :=
  ⟨by kernel_rfl, by kernel_rfl, by kernel_rfl, by kernel_rfl, by kernel_rfl⟩
end Go.Proofs.YtgkljncigbiffaaDoor

/- copy(d, s), d in an own block of bytes from a place on. Plain facts over any program. No condition. -/
namespace Go
open Go.RowKit
/-- copy(d, s), d in an own block of bytes from a place on. -/
theorem wpList_copy_at {P : Program} {w : World} {ops : Array Oper} {rest : List Oper} {o : Oper} {a : Act} {Q : Exit → Act → World → Prop} (hgd : o.guard = none) (d s : Operand) (dT sT : TypeId)
    (ho : o.op = .call { callee := .builtin .copy, args := #[d, s], argTypes := #[dT, sT] }) (elem : TypeId) (hu : P.underlying dT = some (.slice elem)) (hsz : (P.info? elem).map (·.size) = some 1)
    (g off dLen dCap : Nat) (A : Option Addr) (sLen sCap : Nat) (hd : a.eval d = .slice (some ⟨g, off, none⟩) dLen dCap) (hs : a.eval s = .slice A sLen sCap)
    (cur l : List UInt8) (t : TypeId) (hg : Blk w g t (cur.map u8v).toArray) (hn : l.length = sLen) (hb : Bytes w A l) (hfit : off + l.length ≤ cur.length) (hfit2 : l.length ≤ dLen)
    (h : ∀ w', Blk w' g t ((cur.take off ++ (l ++ cur.drop (off + l.length))).map u8v).toArray → Upd g w w' → wpList P ops Q rest (a.put o.dst (goInt l.length)) w') : wpList P ops Q (o :: rest) a w := by
  by_cases h0 : l.length = 0
  · obtain rfl : l = [] := List.eq_nil_of_length_eq_zero h0
    simp at hn
    subst hn
    refine wpList_copy_nothing hgd d s dT sT ho elem hu hsz _ A dLen dCap 0 sCap hd hs (by simp) ?_
    exact h w (by simpa using hg) ⟨rfl, rfl, rfl, rfl, fun _ _ => rfl⟩
  · obtain ⟨b, soff, rfl, _, hc⟩ := hb.at_ (by omega)
    have := wpList_copy_own (Q := Q) (rest := rest) (ops := ops) (w := w) hgd d s dT sT ho elem hu hsz g off dLen dCap ⟨b, soff, none⟩ sLen sCap hd hs (cur.map u8v).toArray t hg (l.map u8v) (by rw [List.length_map, hn]; exact (Nat.min_eq_left (by omega)).symm)
      (fun j v hv => by
        have hj : j < l.length := by
          rcases Nat.lt_or_ge j l.length with h1 | h1
          · exact h1
          · simp [List.getElem?_eq_none h1] at hv
        have h2 := hc j hj
        simp [hj] at hv
        rw [Addr.add_lit, h2, ← hv]; simp [u8v, hj]) (by simpa using hfit) (u8v_one l)
    refine this ?_
    have e1 : ((((cur.map u8v).toArray.toList.take off) ++ (l.map u8v ++ (cur.map u8v).toArray.toList.drop (off + (l.map u8v).length))).toArray) = ((cur.take off ++ (l ++ cur.drop (off + l.length))).map u8v).toArray := by simp
    rw [e1]
    have e2 : ((l.map u8v).length : Int) = (l.length : Int) := by simp
    rw [e2]
    exact h _ (hg.setRow _) (Upd.setRow _ _ _)
end Go
