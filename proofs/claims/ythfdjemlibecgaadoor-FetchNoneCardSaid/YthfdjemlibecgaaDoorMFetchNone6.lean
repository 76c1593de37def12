/- Maps keyed by arrays or structs, in a block of the call's own: what is looked up, stored, stored through an entry. Plain facts over any program. No condition. -/
import Derived.Test.YthfdjemlibecgaaDoorMFetchNone5
import Derived.WideKeyRuns
import GoSem.Instr.MapEntry
import Derived.RangeFuncWrites
import Derived.RangeFuncBound
import Derived.RangeFuncCalls
import Derived.RangeFuncLeaves
import Derived.WalkKit
import Derived.OwnWalkIn
import Derived.TacticsInMore
import Derived.LoopNIn
import Derived.LoopIn
namespace Go
open Go.RowKit Go.Instr Go.MapKept
/-- Keys of a type: which values they are, that they may be keys, how they are compared. -/
structure KeyLaw (P : Program) (kt : TypeId) {α : Type} (ok : α → Prop) (enc : α → Value) : Prop where
  wide : (match P.underlying kt with | some (.array _ _) | some (.struct _) => true | _ => false) = true
  check : ∀ em x w, ok x → (checkKey em 10000 kt (enc x)).run P w = .ok () w
  eq : ∀ x y w, ok x → ok y → ∃ r : Bool, (Op.equal kt (enc x) (enc y)).run P w = .ok r w ∧ (r = true ↔ x = y)
  bits : ∀ x, ok x → sameBits 10000 (enc x) (enc x) = true
section
variable {α : Type}
def kfind [DecidableEq α] : List (α × Value) → α → Nat → Option (Nat × Value)
  | [], _, _ => none
  | p :: l, x, i => if x = p.1 then some (i, p.2) else kfind l x (i + 1)
def kget [DecidableEq α] (l : List (α × Value)) (x : α) : Option Value := (kfind l x 0).map (·.2)
/-- Where a key stands, or will stand. -/
def kat [DecidableEq α] (l : List (α × Value)) (x : α) : Nat := match kfind l x 0 with | some p => p.1 | none => l.length
/-- An entry is asked for. -/
def kask [DecidableEq α] (l : List (α × Value)) (x : α) (z : Value) : List (α × Value) := match kfind l x 0 with | some _ => l | none => l ++ [(x, z)]
def kput [DecidableEq α] (l : List (α × Value)) (x : α) (v : Value) : List (α × Value) := match kfind l x 0 with | some p => l.set p.1 (x, v) | none => l ++ [(x, v)]
theorem kfind_lt [DecidableEq α] {x : α} : ∀ (l : List (α × Value)) (i j : Nat) (v : Value), kfind l x i = some (j, v) → i ≤ j ∧ l[j - i]? = some (x, v)
  | [], _, _, _, h => by cases h
  | p :: l, i, j, v, h => by
    unfold kfind at h
    by_cases hx : x = p.1
    · rw [if_pos hx] at h
      injection h with h; injection h with h1 h2
      subst h1 h2
      exact ⟨Nat.le_refl _, by rw [Nat.sub_self, hx]; rfl⟩
    · rw [if_neg hx] at h
      obtain ⟨h1, h2⟩ := kfind_lt l (i + 1) j v h
      exact ⟨by omega, by rw [show j - i = (j - (i + 1)) + 1 by omega]; simpa using h2⟩
theorem kfind_shift [DecidableEq α] {x : α} : ∀ (l : List (α × Value)) (i : Nat), kfind l x i = (kfind l x 0).map fun p => (p.1 + i, p.2)
  | [], _ => rfl
  | p :: l, i => by
    unfold kfind
    by_cases hx : x = p.1
    · rw [if_pos hx, if_pos hx]; simp
    · rw [if_neg hx, if_neg hx, kfind_shift l (i + 1), kfind_shift l 1, Option.map_map]
      congr 1
      funext p
      simp only [Function.comp, Prod.mk.injEq, and_true]
      omega
theorem kget_cons [DecidableEq α] {p : α × Value} {l : List (α × Value)} {x : α} : kget (p :: l) x = if x = p.1 then some p.2 else kget l x := by
  unfold kget
  rw [kfind]
  by_cases hx : x = p.1
  · rw [if_pos hx, if_pos hx]; rfl
  · rw [if_neg hx, if_neg hx, kfind_shift l 1, Option.map_map]
    rfl
theorem kput_cons [DecidableEq α] {p : α × Value} {l : List (α × Value)} {x : α} {v : Value} : kput (p :: l) x v = if x = p.1 then (x, v) :: l else p :: kput l x v := by
  unfold kput
  rw [kfind]
  by_cases hx : x = p.1
  · rw [if_pos hx, if_pos hx]; rfl
  · rw [if_neg hx, if_neg hx, kfind_shift l 1]
    cases kfind l x 0 <;> rfl
theorem kget_put [DecidableEq α] (l : List (α × Value)) (x y : α) (v : Value) : kget (kput l x v) y = if y = x then some v else kget l y := by
  induction l with
  | nil =>
    show kget [(x, v)] y = _
    rw [kget_cons]
  | cons p l ih =>
    rw [kput_cons]
    by_cases hx : x = p.1
    · rw [if_pos hx, kget_cons, kget_cons]
      by_cases hy : y = x
      · rw [if_pos hy, if_pos hy]
      · rw [if_neg hy, if_neg hy, if_neg (by rw [← hx]; exact hy)]
    · rw [if_neg hx, kget_cons, kget_cons, ih]
      by_cases hy : y = p.1
      · rw [if_pos hy, if_pos hy, if_neg (by rw [hy]; exact fun e => hx e.symm)]
      · rw [if_neg hy, if_neg hy]
theorem kask_set [DecidableEq α] (l : List (α × Value)) (x : α) (z v : Value) : (kask l x z).set (kat l x) (x, v) = kput l x v := by
  unfold kask kat kput
  cases kfind l x 0 with
  | none => simp
  | some p => rfl
theorem kask_at [DecidableEq α] (l : List (α × Value)) (x : α) (z : Value) : ∃ v, (kask l x z)[kat l x]? = some (x, v) := by
  unfold kask kat
  cases h : kfind l x 0 with
  | none => exact ⟨z, by simp⟩
  | some p => exact ⟨p.2, by simpa using (kfind_lt l 0 p.1 p.2 h).2⟩
theorem kask_get [DecidableEq α] (l : List (α × Value)) (x : α) (z : Value) : (kget (kask l x z) x).getD z = (kget l x).getD z := by
  unfold kask
  cases h : kfind l x 0 with
  | some p => rfl
  | none =>
    have e : kput l x z = l ++ [(x, z)] := by unfold kput; rw [h]
    show (kget (l ++ [(x, z)]) x).getD z = _
    rw [← e, kget_put, if_pos rfl]
    unfold kget
    rw [h]; rfl
variable {P : Program} {kt : TypeId} {ok : α → Prop} {enc : α → Value}
/-- A map's entries are these pairs. -/
structure Says (ok : α → Prop) (enc : α → Value) (es : Array MapEntry) (c : Nat) (l : List (α × Value)) : Prop where
  pairs : es.toList.map (fun e => (e.key, e.val)) = l.map fun p => (enc p.1, p.2)
  born : (es.toList.map (·.born)).Nodup
  old : ∀ e ∈ es.toList, e.born < c
  ok : ∀ p ∈ l, ok p.1
def MapK (w : World) (g : Nat) (ok : α → Prop) (enc : α → Value) (l : List (α × Value)) : Prop := ∃ es c, MapB w g es c ∧ Says ok enc es c l
/-- And the entry of stamp b is the i-th. -/
def MapS (w : World) (g : Nat) (ok : α → Prop) (enc : α → Value) (l : List (α × Value)) (b : Int) (i : Nat) : Prop := ∃ es c, MapB w g es c ∧ Says ok enc es c l ∧ ∃ e, es[i]? = some e ∧ (e.born : Int) = b
theorem MapS.mapK {w : World} {g : Nat} {l : List (α × Value)} {b : Int} {i : Nat} (h : MapS w g ok enc l b i) : MapK w g ok enc l := by
  obtain ⟨es, c, h1, h2, _⟩ := h
  exact ⟨es, c, h1, h2⟩
theorem MapK.lt {w : World} {g : Nat} {l : List (α × Value)} (h : MapK w g ok enc l) : g < w.heap.size := by obtain ⟨es, c, h1, _⟩ := h; exact h1.lt
theorem MapK.near {w w' : World} {g : Nat} {l : List (α × Value)} {X : List Nat} (h : MapK w g ok enc l) (k : Near X w w') (hn : g ∉ X) : MapK w' g ok enc l := by obtain ⟨es, c, h1, h2⟩ := h; exact ⟨es, c, h1.near k hn, h2⟩
theorem MapS.near {w w' : World} {g : Nat} {l : List (α × Value)} {b : Int} {i : Nat} {X : List Nat} (h : MapS w g ok enc l b i) (k : Near X w w') (hn : g ∉ X) : MapS w' g ok enc l b i := by obtain ⟨es, c, h1, h2⟩ := h; exact ⟨es, c, h1.near k hn, h2⟩
theorem MapK.new (w : World) (c : Nat) : MapK (w.alloc (.map #[] c)) w.heap.size ok enc ([] : List (α × Value)) := ⟨#[], c, MapB.new w _ _, rfl, by simp, by simp, by simp⟩
theorem run_findAsking_k [DecidableEq α] (hk : KeyLaw P kt ok enc) (x : α) (hx : ok x) (w : World) : ∀ (es : List MapEntry) (l : List (α × Value)) (i : Nat), es.map (fun e => (e.key, e.val)) = l.map (fun p => (enc p.1, p.2)) → (∀ p ∈ l, ok p.1) → (findAsking kt (enc x) es i).run P w = .ok (kfind l x i) w
  | [], [], _, _, _ => by simp [findAsking, kfind]
  | [], _ :: _, _, h, _ => by simp at h
  | _ :: _, [], _, h, _ => by simp at h
  | e :: es, p :: l, i, h, ho => by
    simp only [List.map_cons, List.cons.injEq, Prod.mk.injEq] at h
    obtain ⟨⟨h1, h2⟩, h3⟩ := h
    obtain ⟨r, hr, hiff⟩ := hk.eq x p.1 w hx (ho p (.head _))
    have ih := run_findAsking_k hk x hx w es l (i + 1) h3 fun q hq => ho q (.tail _ hq)
    unfold findAsking kfind
    rw [h1]
    simp only [Sem.run_bind, hr, Result.andThen_ok]
    by_cases hxp : x = p.1
    · rw [hiff.2 hxp, if_pos hxp, h2]; simp
    · have : r = false := by cases r; rfl; exact absurd (hiff.1 rfl) hxp
      rw [this, if_neg hxp]
      simpa using ih
theorem run_findKey_k [DecidableEq α] (hk : KeyLaw P kt ok enc) (x : α) (hx : ok x) (w : World) {es : Array MapEntry} {c : Nat} {l : List (α × Value)} (hs : Says ok enc es c l) : (findKey kt (enc x) es.toList).run P w = .ok (kfind l x 0) w := by
  rw [run_findKey_eq (w := w) hk.wide]
  exact run_findAsking_k hk x hx w es.toList l 0 hs.pairs hs.ok
theorem run_lookup_k [DecidableEq α] (hk : KeyLaw P kt ok enc) (t et : TypeId) (ht : P.underlying t = some (.map kt et)) {w : World} {g : Nat} {l : List (α × Value)} (hg : MapK w g ok enc l) (x : α) (hx : ok x) (z : Value) (hz : (zeroValue et).run P w = .ok z w) (ck : Bool) :
    (lookup t (.map (some g)) (enc x) ck).run P w = .ok (if ck then .tuple #[(kget l x).getD z, .bool (kget l x).isSome] else (kget l x).getD z) w := by
  obtain ⟨es, c, hb, hs⟩ := hg
  have h1 := hk.check es.isEmpty x w hx
  have h2 := run_findKey_k hk x hx w hs
  have h0 : (getObj g).run P w = .ok (.map es c) w := MapKept.run_getObj_map hb
  unfold lookup kget
  cases hm : kfind l x 0 with
  | none => rw [hm] at h2; cases ck <;> simp [run_underlying ht, h0, h1, h2, hz, Result.andThen]
  | some p => rw [hm] at h2; cases ck <;> simp [run_underlying ht, h0, h1, h2, Result.andThen]
theorem Says.entry {es : Array MapEntry} {c : Nat} {l : List (α × Value)} (hs : Says ok enc es c l) {i : Nat} {p : α × Value} (h : l[i]? = some p) : ∃ e, es[i]? = some e ∧ e.key = enc p.1 ∧ e.val = p.2 := by
  have h1 := congrArg (·[i]?) hs.pairs
  simp only [List.getElem?_map, h, Option.map_some] at h1
  rw [Array.getElem?_toList] at h1
  cases he : es[i]? with
  | none => rw [he] at h1; simp at h1
  | some e =>
    rw [he] at h1
    simp only [Option.map_some, Option.some.injEq, Prod.mk.injEq] at h1
    exact ⟨e, rfl, h1.1, h1.2⟩
/-- An entry of the map is given its key anew, or a value. -/
theorem Says.modify {es : Array MapEntry} {c : Nat} {l : List (α × Value)} (hs : Says ok enc es c l) (i : Nat) (f : MapEntry → MapEntry) (q : α × Value) (hf : ∀ e, es[i]? = some e → (f e).key = enc q.1 ∧ (f e).val = q.2) (hb : ∀ e, (f e).born = e.born) (ho : ok q.1) :
    Says ok enc (es.modify i f) c (l.set i q) := by
  have hborn : (es.modify i f).toList.map (·.born) = es.toList.map (·.born) := by
    apply List.ext_getElem?
    intro j
    rw [Array.toList_modify, List.getElem?_map, List.getElem?_map, List.getElem?_modify]
    by_cases hij : i = j
    · subst hij; cases es.toList[i]? <;> simp [hb]
    · cases es.toList[j]? <;> simp [hij]
  refine ⟨?_, by rw [hborn]; exact hs.born, fun e he => ?_, fun p hp => ?_⟩
  · apply List.ext_getElem?
    intro j
    have h1 := congrArg (·[j]?) hs.pairs
    simp only [List.getElem?_map] at h1
    rw [List.getElem?_map, List.getElem?_map, Array.toList_modify, List.getElem?_modify, List.getElem?_set]
    by_cases hij : i = j
    · subst hij
      rw [if_pos rfl]
      cases he : es.toList[i]? with
      | none =>
        rw [he] at h1
        have h9 : l[i]? = none := by cases h : l[i]? with | none => rfl | some _ => rw [h] at h1; cases h1
        have : ¬ i < l.length := by rw [List.getElem?_eq_none_iff] at h9; omega
        rw [if_neg this]; rfl
      | some e =>
        rw [he] at h1
        have : i < l.length := by
          by_cases h : i < l.length
          · exact h
          · rw [List.getElem?_eq_none (by omega)] at h1; cases h1
        rw [if_pos this]
        obtain ⟨h2, h3⟩ := hf e (by rw [← Array.getElem?_toList]; exact he)
        simp [h2, h3]
    · rw [if_neg hij]
      cases he : es.toList[j]? with
      | none => rw [he] at h1; simpa [hij] using h1
      | some e => rw [he] at h1; simpa [hij] using h1
  · have hm : e.born ∈ (es.modify i f).toList.map (·.born) := List.mem_map.2 ⟨e, he, rfl⟩
    rw [hborn] at hm
    obtain ⟨e', he', hb'⟩ := List.mem_map.1 hm
    rw [← hb']; exact hs.old e' he'
  · rcases List.mem_or_eq_of_mem_set hp with h | h
    · exact hs.ok p h
    · rw [h]; exact ho
theorem Says.push {es : Array MapEntry} {c : Nat} {l : List (α × Value)} (hs : Says ok enc es c l) (x : α) (v : Value) (hx : ok x) : Says ok enc (es.push { key := enc x, val := v, born := c }) (c + 1) (l ++ [(x, v)]) := by
  refine ⟨?_, ?_, fun e he => ?_, fun p hp => ?_⟩
  · rw [Array.toList_push, List.map_append, List.map_append, hs.pairs]; rfl
  · rw [Array.toList_push, List.map_append]
    refine List.nodup_append.2 ⟨hs.born, by simp, fun a ha b hb => ?_⟩
    obtain ⟨e, he, rfl⟩ := List.mem_map.1 ha
    simp only [List.map_cons, List.map_nil, List.mem_singleton] at hb
    subst hb
    have := hs.old e he
    omega
  · rw [Array.toList_push, List.mem_append, List.mem_singleton] at he
    rcases he with he | rfl
    · have := hs.old e he; omega
    · exact Nat.lt_succ_self c
  · rw [List.mem_append, List.mem_singleton] at hp
    rcases hp with hp | rfl
    · exact hs.ok p hp
    · exact hx
theorem upd_heap {w : World} {g : Nat} (ob : Obj) : Upd g w { w with heap := w.heap.setIfInBounds g ob } := ⟨rfl, rfl, rfl, by simp, fun k hk => by simp [Ne.symm hk]⟩
theorem run_mapUpdate_k [DecidableEq α] (hk : KeyLaw P kt ok enc) (t et : TypeId) (ht : P.underlying t = some (.map kt et)) {w : World} {g : Nat} {l : List (α × Value)} (hg : MapK w g ok enc l) (x : α) (hx : ok x) (v : Value) :
    ∃ w', (mapUpdate t (.map (some g)) (enc x) v).run P w = .ok () w' ∧ MapK w' g ok enc (kput l x v) ∧ Upd g w w' := by
  obtain ⟨es, c, hb, hs⟩ := hg
  have h1 := hk.check false x w hx
  have h2 := run_findKey_k hk x hx w hs
  have h0 : (getObj g).run P w = .ok (.map es c) w := MapKept.run_getObj_map hb
  have hst : ∀ ob, (setObj g ob).run P w = .ok () { w with heap := w.heap.setIfInBounds g ob } := fun ob => MapKept.run_setObj_map ob hb
  unfold mapUpdate kput
  cases hm : kfind l x 0 with
  | none =>
    rw [hm] at h2
    simp only [Sem.run_bind, run_underlying ht, Result.andThen_ok, h0, h1, h2, hst]
    exact ⟨_, rfl, ⟨_, _, (heap_set hb).1, hs.push x v hx⟩, upd_heap _⟩
  | some p =>
    obtain ⟨i, v0⟩ := p
    have h3 := (kfind_lt l 0 i v0 hm).2
    rw [Nat.sub_zero] at h3
    obtain ⟨e, he, hke, _⟩ := hs.entry h3
    have h5 : ((es[i]?).map (·.key)).getD (enc x) = enc x := by rw [he]; exact hke
    rw [hm] at h2
    simp only [Sem.run_bind, run_underlying ht, Result.andThen_ok, h0, h1, h2, h5, keyThatStays, hk.bits x hx, if_true, Sem.run_pure, hst]
    exact ⟨_, rfl, ⟨_, _, (heap_set hb).1, hs.modify i _ (x, v) (fun _ _ => ⟨rfl, rfl⟩) (fun _ => rfl) hx⟩, upd_heap _⟩
theorem run_mapEntry_k [DecidableEq α] (hk : KeyLaw P kt ok enc) (t et : TypeId) (ht : P.underlying t = some (.map kt et)) {w : World} {g : Nat} {l : List (α × Value)} (hg : MapK w g ok enc l) (x : α) (hx : ok x) (z : Value) (hz : (zeroValue et).run P w = .ok z w) :
    ∃ w' b, (mapEntry t (.map (some g)) (enc x)).run P w = .ok (.tuple #[(kget l x).getD z, .int .i64 b]) w' ∧ MapS w' g ok enc (kask l x z) b (kat l x) ∧ Upd g w w' := by
  obtain ⟨es, c, hb, hs⟩ := hg
  have h1 := hk.check false x w hx
  have h2 := run_findKey_k hk x hx w hs
  have h0 : (getObj g).run P w = .ok (.map es c) w := MapKept.run_getObj_map hb
  have hst : ∀ ob, (setObj g ob).run P w = .ok () { w with heap := w.heap.setIfInBounds g ob } := fun ob => MapKept.run_setObj_map ob hb
  have hlen : es.size = l.length := by have := congrArg List.length hs.pairs; simpa using this
  unfold mapEntry kask kat kget
  cases hm : kfind l x 0 with
  | none =>
    rw [hm] at h2
    simp only [Sem.run_bind, run_underlying ht, Result.andThen_ok, h0, h1, h2, hz, hst, Sem.run_pure]
    refine ⟨_, _, rfl, ⟨_, _, (heap_set hb).1, hs.push x z hx, { key := enc x, val := z, born := c }, ?_, rfl⟩, upd_heap _⟩
    rw [← hlen, Array.getElem?_push_size]
  | some p =>
    obtain ⟨i, v0⟩ := p
    have h3 := (kfind_lt l 0 i v0 hm).2
    rw [Nat.sub_zero] at h3
    obtain ⟨e, he, hke, hve⟩ := hs.entry h3
    have h5 : ((es[i]?).map (·.key)).getD (enc x) = enc x := by rw [he]; exact hke
    rw [hm] at h2
    simp only [Sem.run_bind, run_underlying ht, Result.andThen_ok, h0, h1, h2, h5, keyThatStays, hk.bits x hx, if_true, Sem.run_pure, hst]
    refine ⟨_, _, rfl, ⟨_, _, (heap_set hb).1, ?_, { e with key := enc x }, ?_, ?_⟩, upd_heap _⟩
    · have h := hs.modify i (fun e => { e with key := enc x }) (x, v0) (fun e' he' => by rw [he] at he'; injection he' with he'; exact ⟨rfl, by rw [← he']; exact hve⟩) (fun _ => rfl) hx
      have e2 : l.set i (x, v0) = l := by
        rw [List.getElem?_eq_some_iff] at h3
        obtain ⟨hlt, h3⟩ := h3
        rw [← h3]; exact List.set_getElem_self hlt
      rw [e2] at h; exact h
    · rw [Array.getElem?_modify, if_pos rfl, he]; rfl
    · show (e.born : Int) = _
      rw [he]; rfl
theorem run_entryStore_k [DecidableEq α] (t : TypeId) {w : World} {g : Nat} {l : List (α × Value)} {b : Int} {i : Nat} (hg : MapS w g ok enc l b i) (x : α) (v0 : Value) (hi : l[i]? = some (x, v0)) (v : Value) :
    ∃ w', (entryStore t (.map (some g)) (.int .i64 b) v).run P w = .ok () w' ∧ MapK w' g ok enc (l.set i (x, v)) ∧ Upd g w w' := by
  obtain ⟨es, c, hb, hs, e, he, hbe⟩ := hg
  have h0 : (getObj g).run P w = .ok (.map es c) w := MapKept.run_getObj_map hb
  have hst : ∀ ob, (setObj g ob).run P w = .ok () { w with heap := w.heap.setIfInBounds g ob } := fun ob => MapKept.run_setObj_map ob hb
  obtain ⟨e', he', hke, hve⟩ := hs.entry hi
  rw [he] at he'
  injection he' with he'
  subst he'
  have hfind : es.findIdx? (fun e => (e.born : Int) == b) = some i := by
    obtain ⟨hlt, hee⟩ := Array.getElem?_eq_some_iff.1 he
    rw [Array.findIdx?_eq_some_iff_getElem]
    refine ⟨hlt, by rw [hee]; simpa using hbe, fun j hji => ?_⟩
    have hjl : j < es.size := by omega
    intro hj
    have hj' : (es[j].born : Int) = b := by simpa using hj
    have hn := List.pairwise_iff_getElem.1 hs.born j i (by simpa using hjl) (by simpa using hlt) hji
    apply hn
    simp only [List.getElem_map, Array.getElem_toList, hee]
    omega
  unfold entryStore
  simp only [Sem.run_bind, Result.andThen_ok, h0, asInt, asIntOf, Sem.run_pure]
  rw [hfind]
  simp only [hst]
  exact ⟨_, rfl, ⟨_, _, (heap_set hb).1, hs.modify i _ (x, v) (fun e' he' => by rw [he] at he'; injection he' with he'; exact ⟨by rw [← he']; exact hke, rfl⟩) (fun _ => rfl) (show ok x from hs.ok (x, v0) (List.mem_of_getElem? hi))⟩, upd_heap _⟩
end
end Go

/- A range over a function that yields a fixed row of items; the state ahead of each round is known to the function, too. Plain facts over any program. No condition. -/
namespace Go
open Go.RowKit
section
variable {F : Fence} {n : Nat} {P : Program}
/-- The function's part: whoever calls keeps I, from round to round; then all N items are yielded, or the caller stops. -/
def RowOf (F : Fence) (n : Nat) (P : Program) (gf : Nat) (lb : Array Value) (encs : Nat → Array Value) (I : Nat → World → Prop) (N : Nat) : Prop :=
  ∀ (l : Nat) (J : Nat → World → Prop) (Jx : World → Prop) (W : World), (∀ k W, J k W → I k W) → (∀ k W W', J k W → Below W.heap.size W W' → J k W') → (∀ W W', Jx W → Below W.heap.size W W' → Jx W') →
    (∀ k W, J k W → k < N → YieldAt F (n - 1) P l (encs k) W fun e W' => (e = .returned (.bool true) ∧ J (k + 1) W') ∨ (e = .returned (.bool false) ∧ Jx W')) →
    J 0 W → CallsIn F n P gf (#[.func (.yield l) #[] #[]] ++ lb) W fun e W' => (∃ v, e = .returned v) ∧ (J N W' ∨ Jx W')
/-- How a round's body may end. -/
def rowPost (B : Nat) (I : World → Prop) (Ix : Code → World → Prop) (W : World) : Exit → Act → World → Prop
  | .normal, _, W' => KeepsFrom B W W' ∧ I W'
  | .ret, _, W' => KeepsFrom B W W' ∧ Ix .ret W'
  | .exit i, _, W' => KeepsFrom B W W' ∧ Ix (.exit i) W'
  | .goto t, _, W' => KeepsFrom B W W' ∧ Ix (.goto t) W'
  | .panic _, _, _ => False
  | .outgrown, _, _ => False
theorem KeepsFrom.near {B : Nat} {X : List Nat} {W W' : World} (h : Near X W W') (hX : ∀ x ∈ X, x < B) : KeepsFrom B W W' :=
  ⟨h.size, fun k _ hB hk _ => (h.block k (Array.getElem?_eq_some_iff.1 hk).1 (fun e => by have := hX k e; omega)).trans hk⟩
theorem KeepsFrom.below {B : Nat} {W W' : World} (h : Below W.heap.size W W') : KeepsFrom B W W' :=
  ⟨h.size, fun k _ _ hk _ => (h.block k (Array.getElem?_eq_some_iff.1 hk).1).trans hk⟩
theorem putObj_near (W : World) (l : Nat) (o : Obj) : Near [l] W (W.putObj l o) :=
  ⟨rfl, rfl, rfl, by simp [World.putObj], fun k _ hn => World.putObj_heap_other (fun e => hn (by rw [e]; exact List.mem_singleton_self _))⟩
theorem putObj_below {B : Nat} (W : World) (l : Nat) (o : Obj) (hB : B ≤ l) (hs : B ≤ W.heap.size) : Below B W (W.putObj l o) :=
  (putObj_near W l o).toBelow (fun x hx => by rw [List.mem_singleton.1 hx]; exact hB) hs
/-- What lay below B, and all cells, lie as they lay. -/
structure Kept (B : Nat) (W W' : World) : Prop where
  os : W'.os = W.os
  tape : W'.tape = W.tape
  output : W'.output = W.output
  size : W.heap.size ≤ W'.heap.size
  low : ∀ j, j < B → j < W.heap.size → W'.heap[j]? = W.heap[j]?
  cells : ∀ (j : Nat) (o : Obj), W.heap[j]? = some o → o.isCells = true → W'.heap[j]? = some o
theorem Kept.below {B : Nat} {W W' : World} (h : Below W.heap.size W W') : Kept B W W' :=
  ⟨h.os, h.tape, h.output, h.size, fun j _ hj => h.block j hj, fun j _ hj _ => (h.block j (Array.getElem?_eq_some_iff.1 hj).1).trans hj⟩
theorem Kept.put {B : Nat} {W : World} {l : Nat} {o o' : Obj} (hB : B ≤ l) (hl : W.heap[l]? = some o') (ho : o'.isCells = false) : Kept B W (W.putObj l o) :=
  ⟨rfl, rfl, rfl, by simp [World.putObj], fun j hj _ => World.putObj_heap_other (by omega), fun j o2 hj h2 => by
    by_cases e : j = l
    · subst e; rw [hl] at hj; injection hj with hj; subst hj; rw [ho] at h2; cases h2
    · exact (World.putObj_heap_other e).trans hj⟩
theorem Blk.keptW {B : Nat} {W W' : World} {g : Nat} {t : TypeId} {cs : Array Value} (h : Blk W g t cs) (k : Kept B W W') : Blk W' g t cs := k.cells g _ h rfl
theorem MapB.keptW {B : Nat} {W W' : World} {g : Nat} {es : Array MapEntry} {c : Nat} (h : MapB W g es c) (k : Kept B W W') (hg : g < B) : MapB W' g es c := (k.low g hg h.lt).trans h
theorem Kept.cell {B : Nat} {W W' : World} (k : Kept B W W') {p : Addr} {v : Value} (h : W.cell? p = some v) : W'.cell? p = some v := by
  unfold World.cell? at h ⊢
  split at h
  · rename_i cs t e
    rw [k.cells _ _ e rfl]; exact h
  · cases h
theorem Near.keptW {B : Nat} {X : List Nat} {w W W' : World} (h : Near X w W) (k : Kept B W W') (hB : w.heap.size ≤ B) : Near X w W' :=
  ⟨k.os.trans h.os, k.tape.trans h.tape, k.output.trans h.output, Nat.le_trans h.size k.size, fun j hj hn => (k.low j (by omega) (Nat.lt_of_lt_of_le hj h.size)).trans (h.block j hj hn)⟩
theorem Near.high {X Y : List Nat} {w W W' : World} (h : Near X w W) (k : Near Y W W') (hY : ∀ y ∈ Y, w.heap.size ≤ y) : Near X w W' :=
  ⟨k.os.trans h.os, k.tape.trans h.tape, k.output.trans h.output, Nat.le_trans h.size k.size, fun j hj hn => (k.block j (Nat.lt_of_lt_of_le hj h.size) (fun hx => by have := hY j hx; omega)).trans (h.block j hj hn)⟩
theorem Reads.keptW {B : Nat} {W W' : World} {A : Option Addr} {xs : List Value} (h : Reads W A xs) (k : Kept B W W') : Reads W' A xs := fun hn => by
  obtain ⟨b, off, e, hc⟩ := h hn
  exact ⟨b, off, e, fun j v hv => k.cell (hc j v hv)⟩
theorem wpIn_rangeRow {g : Operand} {ps : Array Tmp} {assign body : Code} {Q : Exit → Act → World → Prop} {a : Act} {w : World}
    (hro : F.round = none) (h1 : 1 ≤ n) {gf : Nat} {lb : Array Value} (hg : a.eval g = .func (.func gf) #[] lb) (hFg : F.fn gf) (eg : ∀ args w, (callFunc gf args).run P w = .ok (.enter gf args) w)
    (encs : Nat → Array Value) (hps : ∀ k, (encs k).size = ps.size) (N : Nat) (I : Nat → World → Prop) (Ix : Code → World → Prop)
    (hI : ∀ k W W', I k W → Kept w.heap.size W W' → I k W') (hIx : ∀ c W W', Ix c W → Kept w.heap.size W W' → Ix c W') (h0 : I 0 w)
    (hrow : RowOf F (n - 1) P gf lb encs I N)
    (hround : ∀ l k W, w.heap.size ≤ l → l < W.heap.size → I k W → k < N → assign.wpIn (F.inRound l) (n - 1 - 1) P
      (Exit.then (fun a₁ W₁ => Below W.heap.size W W₁ ∧ ∀ W₂, Kept w.heap.size W₁ W₂ → body.wpIn (F.inRound l) (n - 1 - 1) P (rowPost w.heap.size (I (k + 1)) Ix W₂) a₁ W₂) (fun _ _ _ => False))
      { tmps := (ps.zip (encs k)).foldl (fun t (p, v) => t.setIfInBounds p v) a.tmps, defers := [] } W)
    (hdone : ∀ D W, w.heap.size ≤ D → I N W → W.heap[D]? = some (.deferred (some [])) → Q .normal { a with defers := { target := .collected D, args := #[] } :: a.defers } W)
    (hstop : ∀ D c W, w.heap.size ≤ D → Ix c W → W.heap[D]? = some (.deferred (some [])) → c.wpIn F n P Q { a with defers := { target := .collected D, args := #[] } :: a.defers } W) :
    (Code.rangeFunc g ps assign body).wpIn F n P Q a w := by
  refine wpIn_rangeFunc fun fn hfn => ?_
  rw [hro]
  -- the loop's record, in a state; the two blocks that the loop lays
  let R : LoopState → Option Code → Obj := fun st pe => .loop { state := st, pending := pe, fn, tmps := a.tmps, params := ps, assign, body, defers := w.heap.size }
  let D := w.heap.size
  let l := w.heap.size + 1
  -- what the loop needs of a world, beside the caller's own
  let Bk : LoopState → Option Code → World → Prop := fun st pe W => W.heap[l]? = some (R st pe) ∧ W.heap[D]? = some (.deferred (some []))
  have bklt : ∀ {st pe W}, Bk st pe W → l < W.heap.size := fun h => (Array.getElem?_eq_some_iff.1 h.1).1
  have bkput : ∀ {st pe W} st' pe', Bk st pe W → Bk st' pe' (W.putObj l (R st' pe')) := fun st' pe' h =>
    ⟨World.putObj_heap_same (bklt h), (World.putObj_heap_other (by show D ≠ l; omega)).trans h.2⟩
  have bkput' : ∀ {st pe W} (o : Obj), Bk st pe W → (W.putObj l o).heap[D]? = some (.deferred (some [])) := fun o h => (World.putObj_heap_other (by show D ≠ l; omega)).trans h.2
  have bkbel : ∀ {st pe W W'}, Bk st pe W → Below W.heap.size W W' → Bk st pe W' := fun h k =>
    ⟨(k.block _ (bklt h)).trans h.1, (k.block _ (by have := bklt h; omega)).trans h.2⟩
  have low : ∀ {st pe W}, Bk st pe W → w.heap.size ≤ W.heap.size := fun h => by have := bklt h; omega
  have put : ∀ {st pe W} (o : Obj), Bk st pe W → Kept w.heap.size W (W.putObj l o) := fun o h => Kept.put (by show D ≤ l; omega) h.1 rfl
  -- the world behind the loop's entry
  let W1 := (w.alloc (.deferred (some []))).alloc (R .ready none)
  have e1 : Below w.heap.size w W1 := ((Below.refl _ w).alloc (Nat.le_refl _) _).alloc (by simp) _
  have b1 : Bk .ready none W1 := by
    refine ⟨?_, ?_⟩
    · have h := World.alloc_heap_new (w.alloc (.deferred (some []))) (R .ready none)
      rwa [World.size_alloc] at h
    · exact (Below.heap_alloc _ _ _ (by rw [World.size_alloc]; exact Nat.lt_succ_self _)).trans (World.alloc_heap_new w _)
  refine ⟨l, [{ target := .collected D, args := #[] }], W1, { target := .fn (.func gf) lb, args := #[.func (.yield l) #[] #[]] }, W1, gf, #[.func (.yield l) #[] #[]] ++ lb, W1,
    run_enterLoop_outer _ _ _ _ _, ?_, ?_, ?_, fun _ => h1, ?_⟩
  · simp only [resolve, hg]
    simp [go_sem]
  · intro f' hf'
    simp [Target.leads] at hf'
    exact hf' ▸ hFg
  · simp [invoke, go_sem, eg]
  refine (hrow l (fun k W => I k W ∧ Bk .ready none W) (fun W => ∃ c, Ix c W ∧ Bk .done (some c) W) W1 (fun _ _ h => h.1)
    (fun k W W' h b => ⟨hI k W W' h.1 (Kept.below b), bkbel h.2 b⟩) (fun W W' h b => by obtain ⟨c, hc, hb⟩ := h; exact ⟨c, hIx c W W' hc (Kept.below b), bkbel hb b⟩) ?_ ⟨hI 0 w W1 h0 (Kept.below e1), b1⟩).mono ?_
  · -- a round
    rintro k W ⟨hi, hb⟩ hk
    refine ⟨fn, _, assign, body, run_yield hb.1 (hps k), roundIn_of_wpIn hfn ?_⟩
    refine wpIn_mono (hround l k W (by show D ≤ l; omega) (bklt hb) hi hk) ?_
    rintro e a1 W2 he
    cases e
    case normal =>
      obtain ⟨hB, hbody⟩ := he
      have hb2 := bkbel hb hB
      refine ⟨_, run_beginRound hb2.1 rfl, ?_⟩
      have hb3 := bkput .busy none hb2
      refine wpIn_mono (hbody _ (Kept.put (by show D ≤ l; omega) hb2.1 rfl)) ?_
      rintro e3 a3 W4 hp
      have fin : KeepsFrom w.heap.size (W2.putObj l (R .busy none)) W4 → Bk .busy none W4 := fun hkf => ⟨hkf.same _ _ (by show D ≤ l; omega) hb3.1 rfl, hkf.same _ _ (Nat.le_refl _) hb3.2 rfl⟩
      cases e3 with
      | normal =>
        have hb4 := fin hp.1
        exact ⟨_, _, run_endRound none hb4.1, .inl ⟨rfl, hI _ _ _ hp.2 (put _ hb4), bkput .ready none hb4⟩⟩
      | ret =>
        have hb4 := fin hp.1
        exact ⟨_, _, run_endRound (some .ret) hb4.1, .inr ⟨rfl, .ret, hIx _ _ _ hp.2 (put _ hb4), bkput .done (some .ret) hb4⟩⟩
      | exit i =>
        have hb4 := fin hp.1
        exact ⟨_, _, run_endRound (some (.exit i)) hb4.1, .inr ⟨rfl, .exit i, hIx _ _ _ hp.2 (put _ hb4), bkput .done (some (.exit i)) hb4⟩⟩
      | goto t =>
        have hb4 := fin hp.1
        exact ⟨_, _, run_endRound (some (.goto t)) hb4.1, .inr ⟨rfl, .goto t, hIx _ _ _ hp.2 (put _ hb4), bkput .done (some (.goto t)) hb4⟩⟩
      | panic ch => exact hp.elim
      | outgrown => exact hp.elim
    all_goals exact he.elim
  · -- behind the function
    rintro e W2 ⟨⟨v, rfl⟩, (⟨hi, hb⟩ | ⟨c, hc, hb⟩)⟩
    · exact ⟨none, _, run_endLoop hb.1 (by simp), hdone D _ (Nat.le_refl _) (hI _ _ _ hi (put _ hb)) (bkput' _ hb)⟩
    · exact ⟨some c, _, run_endLoop hb.1 (by simp), hstop D c _ (Nat.le_refl _) (hIx _ _ _ hc (put _ hb)) (bkput' _ hb)⟩
end
end Go

/- Maps keyed by arrays or structs: the walk's arms. Plain facts over any program. No condition. -/
namespace Go
open Go.RowKit Go.Instr
section
variable {α : Type} {P : Program} {kt : TypeId} {ok : α → Prop} {enc : α → Value}
variable {w : World} {ops : Array Oper} {rest : List Oper} {o : Oper} {a : Act} {Q : Exit → Act → World → Prop}
theorem wpList_lookup_k [DecidableEq α] (hgd : o.guard = none) (hk : KeyLaw P kt ok enc) (t et : TypeId) (m k : Operand) (ck : Bool) (ho : o.op = .lookup t m k ck) (ht : P.underlying t = some (.map kt et)) {g : Nat} {l : List (α × Value)} (hg : MapK w g ok enc l)
    (x : α) (hx : ok x) (z : Value) (hz : (zeroValue et).run P w = .ok z w) (hm : a.eval m = .map (some g)) (he : a.eval k = enc x)
    (h : wpList P ops Q rest (a.put o.dst (if ck then .tuple #[(kget l x).getD z, .bool (kget l x).isSome] else (kget l x).getD z)) w) : wpList P ops Q (o :: rest) a w :=
  wpList_run _ hgd (by unfold execOp; simp only [ho, hm, he, run_lookup_k hk t et ht hg x hx z hz ck, Sem.run_bind, Result.andThen_ok, Sem.run_pure]) h
theorem wpList_mapUpdate_k [DecidableEq α] (hgd : o.guard = none) (hk : KeyLaw P kt ok enc) (t et : TypeId) (m k y : Operand) (ho : o.op = .mapUpdate t m k y) (ht : P.underlying t = some (.map kt et)) {g : Nat} {l : List (α × Value)} (hg : MapK w g ok enc l)
    (x : α) (hx : ok x) (v : Value) (hm : a.eval m = .map (some g)) (he : a.eval k = enc x) (hy : a.eval y = v)
    (h : ∀ w', MapK w' g ok enc (kput l x v) → Upd g w w' → wpList P ops Q rest (a.put o.dst undef) w') : wpList P ops Q (o :: rest) a w := by
  obtain ⟨w', h1, h2, h3⟩ := run_mapUpdate_k hk t et ht hg x hx v
  refine wpList_plain hgd fun _ hK => ?_
  unfold Oper.wp execOp
  simp only [ho, hm, he, hy, h1, Sem.run_bind, Sem.run_pure, Result.andThen_ok]
  exact hK _ _ (h w' h2 h3)
theorem wpList_mapEntry_k [DecidableEq α] (hgd : o.guard = none) (hk : KeyLaw P kt ok enc) (t et : TypeId) (m k : Operand) (ho : o.op = .mapEntry t m k) (ht : P.underlying t = some (.map kt et)) {g : Nat} {l : List (α × Value)} (hg : MapK w g ok enc l)
    (x : α) (hx : ok x) (z : Value) (hz : (zeroValue et).run P w = .ok z w) (hm : a.eval m = .map (some g)) (he : a.eval k = enc x)
    (h : ∀ w' b, MapS w' g ok enc (kask l x z) b (kat l x) → Upd g w w' → wpList P ops Q rest (a.put o.dst (.tuple #[(kget l x).getD z, .int .i64 b])) w') : wpList P ops Q (o :: rest) a w := by
  obtain ⟨w', b, h1, h2, h3⟩ := run_mapEntry_k hk t et ht hg x hx z hz
  refine wpList_plain hgd fun _ hK => ?_
  unfold Oper.wp execOp
  simp only [ho, hm, he, h1, Sem.run_bind, Sem.run_pure, Result.andThen_ok]
  exact hK _ _ (h w' b h2 h3)
theorem wpList_entryStore_k [DecidableEq α] (hgd : o.guard = none) (t : TypeId) (m s y : Operand) (ho : o.op = .entryStore t m s y) {g : Nat} {l : List (α × Value)} {b : Int} {x : α} {z : Value} (hg : MapS w g ok enc (kask l x z) b (kat l x))
    (v : Value) (hm : a.eval m = .map (some g)) (hs : a.eval s = .int .i64 b) (hy : a.eval y = v)
    (h : ∀ w', MapK w' g ok enc (kput l x v) → Upd g w w' → wpList P ops Q rest (a.put o.dst undef) w') : wpList P ops Q (o :: rest) a w := by
  obtain ⟨v0, hv0⟩ := kask_at l x z
  obtain ⟨w', h1, h2, h3⟩ := run_entryStore_k (P := P) t hg x v0 hv0 v
  rw [kask_set] at h2
  refine wpList_plain hgd fun _ hK => ?_
  unfold Oper.wp execOp
  simp only [ho, hm, hs, hy, h1, Sem.run_bind, Sem.run_pure, Result.andThen_ok]
  exact hK _ _ (h w' h2 h3)
theorem MapK.keptW {B : Nat} {W W' : World} {g : Nat} {l : List (α × Value)} (h : MapK W g ok enc l) (k : Kept B W W') (hg : g < B) : MapK W' g ok enc l := by obtain ⟨es, c, h1, h2⟩ := h; exact ⟨es, c, h1.keptW k hg, h2⟩
end
end Go

/- Maps keyed by arrays or structs: an entry is deleted. Plain facts over any program. No condition. -/
namespace Go
open Go.RowKit Go.Instr Go.MapKept
section
variable {α : Type} {P : Program} {kt : TypeId} {ok : α → Prop} {enc : α → Value}
theorem eraseIdx_map' {β γ : Type} (f : β → γ) : ∀ (l : List β) (i : Nat), (l.map f).eraseIdx i = (l.eraseIdx i).map f
  | [], _ => by simp
  | x :: l, 0 => by simp
  | x :: l, i + 1 => by simp [eraseIdx_map' f l i]
def kdel [DecidableEq α] (l : List (α × Value)) (x : α) : List (α × Value) := match kfind l x 0 with | some p => l.eraseIdx p.1 | none => l
theorem kdel_cons [DecidableEq α] {p : α × Value} {l : List (α × Value)} {x : α} : kdel (p :: l) x = if x = p.1 then l else p :: kdel l x := by
  unfold kdel
  rw [kfind]
  by_cases h : x = p.1
  · rw [if_pos h, if_pos h]; rfl
  · rw [if_neg h, if_neg h, kfind_shift]
    cases kfind l x 0 with
    | none => rfl
    | some q => rfl
theorem Says.erase {es : Array MapEntry} {c : Nat} {l : List (α × Value)} (hs : Says ok enc es c l) (i : Nat) : Says ok enc (es.eraseIdxIfInBounds i) c (l.eraseIdx i) := by
  have e : (es.eraseIdxIfInBounds i).toList = es.toList.eraseIdx i := by
    rw [Array.eraseIdxIfInBounds]
    split
    · simp
    · rename_i h
      rw [List.eraseIdx_of_length_le (by simpa using h)]
  refine ⟨?_, ?_, ?_, fun p hp => hs.ok p (List.mem_of_mem_eraseIdx hp)⟩
  · rw [e, ← eraseIdx_map', hs.pairs, eraseIdx_map']
  · rw [e, ← eraseIdx_map']
    exact (List.eraseIdx_sublist _ _).nodup hs.born
  · intro x hx
    rw [e] at hx
    exact hs.old x (List.mem_of_mem_eraseIdx hx)
theorem run_delete_k [DecidableEq α] (hk : KeyLaw P kt ok enc) (t tk ty et : TypeId) (ht : P.underlying t = some (.map kt et)) {w : World} {g : Nat} {l : List (α × Value)} (hg : MapK w g ok enc l) (x : α) (hx : ok x) :
    ∃ w', (Builtin.delete_ #[t, tk] ty #[.map (some g), enc x]).run P w = .ok (.tuple #[]) w' ∧ MapK w' g ok enc (kdel l x) ∧ Upd g w w' := by
  obtain ⟨es, c, hb, hs⟩ := hg
  have h1 := hk.check es.isEmpty x w hx
  have h2 := run_findKey_k hk x hx w hs
  have h0 : (getObj g).run P w = .ok (.map es c) w := MapKept.run_getObj_map hb
  have hst : ∀ ob, (setObj g ob).run P w = .ok () { w with heap := w.heap.setIfInBounds g ob } := fun ob => MapKept.run_setObj_map ob hb
  unfold Builtin.delete_ kdel
  cases hm : kfind l x 0 with
  | none =>
    rw [hm] at h2
    simp only [List.getElem?_toArray, List.getElem?_cons_zero, List.getElem?_cons_succ, Sem.run_bind, run_underlying ht, Result.andThen_ok, h0, h1, h2, hst, Sem.run_pure]
    exact ⟨_, rfl, ⟨_, _, (heap_set hb).1, hs⟩, upd_heap _⟩
  | some p =>
    obtain ⟨i, v0⟩ := p
    rw [hm] at h2
    simp only [List.getElem?_toArray, List.getElem?_cons_zero, List.getElem?_cons_succ, Sem.run_bind, run_underlying ht, Result.andThen_ok, h0, h1, h2, hst, Sem.run_pure]
    exact ⟨_, rfl, ⟨_, _, (heap_set hb).1, hs.erase i⟩, upd_heap _⟩
variable {w : World} {ops : Array Oper} {rest : List Oper} {o : Oper} {a : Act} {Q : Exit → Act → World → Prop}
theorem wpList_delete_k [DecidableEq α] (hgd : o.guard = none) (hk : KeyLaw P kt ok enc) (t tk et : TypeId) (m k : Operand) (ho : o.op = .call { callee := .builtin .delete, args := #[m, k], argTypes := #[t, tk] }) (ht : P.underlying t = some (.map kt et)) {g : Nat} {l : List (α × Value)} (hg : MapK w g ok enc l)
    (x : α) (hx : ok x) (hm : a.eval m = .map (some g)) (he : a.eval k = enc x)
    (h : ∀ w', MapK w' g ok enc (kdel l x) → Upd g w w' → wpList P ops Q rest (a.put o.dst (.tuple #[])) w') : wpList P ops Q (o :: rest) a w := by
  obtain ⟨w', h1, h2, h3⟩ := run_delete_k (P := P) hk t tk o.type et ht hg x hx
  refine wpList_plain hgd fun _ hK => ?_
  unfold Oper.wp execOp
  simp only [ho, resolve, invoke, builtin, Sem.run_bind, Sem.run_pure, Result.andThen_ok, List.map_toArray, List.map_cons, List.map_nil, hm, he, h1]
  exact hK _ _ (h w' h2 h3)
end
end Go

/- What a call hands back whose first result lies in a block; reads over an Upd step. Plain facts over any program. No condition. -/
namespace Go
open Go.RowKit
theorem Bytes.range {w : World} {b off : Nat} {l : List UInt8} (h : Bytes w (some ⟨b, off, none⟩) l) : w.rangeAt b off (l.map u8v) := fun j v hv => by
  have hne : l.map u8v ≠ [] := by intro e; rw [e] at hv; simp at hv
  obtain ⟨b', off', e, hc⟩ := h hne
  simp only [Option.some.injEq, Addr.mk.injEq, and_true] at e
  rw [e.1, e.2]; exact hc j v hv
theorem Upd.cell {g : Nat} {w w' : World} (u : Upd g w w') {p : Addr} (hp : p.block ≠ g) : w'.cell? p = w.cell? p := by
  unfold World.cell?
  rw [u.block p.block hp]
theorem Reads.upd {g : Nat} {w w' : World} {A : Option Addr} {xs : List Value} (h : Reads w A xs) (u : Upd g w w') (hA : ∀ ad, A = some ad → ad.block ≠ g) : Reads w' A xs := fun hn => by
  obtain ⟨b, off, rfl, hc⟩ := h hn
  exact ⟨b, off, rfl, fun j v hv => (u.cell (p := ⟨b, off + j, none⟩) (hA ⟨b, off, none⟩ rfl)).trans (hc j v hv)⟩
theorem results_row_tmp {P : Program} {fn : Func} {p q : Tmp} {ty : TypeId} (h : fn.results = #[.cell p ty, .tmp q]) (tmps : Array Value) (w : World) (g : Nat) (t : TypeId) (cs : Array Value) (d : TypeDesc)
    (hp : tmps.getD p undef = .pointer (some ⟨g, 0, none⟩)) (hg : Blk w g t cs)
    (hu : P.underlying ty = some d) (hd : (match d with | .struct _ | .array _ _ => true | _ => false) = true) (hi : (P.info? ty).map (·.size) = some cs.size) :
    (results fn tmps).run P w = .ok (.tuple #[.agg cs, tmps.getD q undef]) w := by
  have hp' : tmps[p]?.getD undef = .pointer (some ⟨g, 0, none⟩) := by simpa using hp
  simp [results, h, hp', asAddr, run_loadVar_row w g t ty cs (0, 0) d hg hu hd hi]
end Go

/- A block's bytes read, by the program. Condition: the bytes can be read. -/
namespace Go
open Go.RowKit
namespace Proofs.YthfdjemlibecgaaDoor
open Go.RowKit
/-- What is told of a block that was read. -/
def ReadPost (b : GBT) (code : Int) (w : World) (e : Ending) (w' : World) : Prop :=
  ∃ A2 c2 B2 d2, e = .returned (.tuple #[.agg #[.int .i64 b.1, .int .i64 b.2.1.1, .int .i64 b.2.1.2.1, .slice A2 b.2.2.1.length c2, .slice B2 b.2.2.2.1.length d2], .int .i64 code]) ∧
    Refs w' A2 b.2.2.1 ∧ Bytes w' B2 b.2.2.2.1 ∧ b.2.2.1.length ≤ c2 ∧ b.2.2.2.1.length ≤ d2 ∧ d2 ≤ 9223372036854775807 ∧ Below w.heap.size w w' ∧ (∀ ad, A2 = some ad → w.heap.size ≤ ad.block) ∧ ∀ ad, B2 = some ad → w.heap.size ≤ ad.block
theorem ReadPost.none {code : Int} {w w' : World} (hB : Below w.heap.size w w') : ReadPost GB.none_ code w (.returned (.tuple #[.agg #[.int .i64 0, .int .i64 0, .int .i64 0, .slice none 0 0, .slice none 0 0], .int .i64 code])) w' :=
  ⟨Option.none, 0, Option.none, 0, rfl, fun h => absurd h (by simp [GB.none_]), Reads.nil _ _, Nat.le_refl _, Nat.le_refl _, by omega, hB, (fun _ e => by cases e), (fun _ e => by cases e)⟩
def zeroGB : Array Value := #[.int .i64 0, .int .i64 0, .int .i64 0, .slice none 0 0, .slice none 0 0]
theorem zeroGB_one : zeroGB.all (·.oneCell') = true := by simp [zeroGB, Value.oneCell']
/-- The refs that bytes say. -/
def refsOf (raw : List UInt8) (M : Nat) : List RefT := (List.range M).map (fun i => ((at4 raw (36 + 8 * i) : Int), (at4 raw (36 + 8 * i + 4) : Int), ()))
theorem refsOf_succ (raw : List UInt8) (i : Nat) : refsOf raw (i + 1) = refsOf raw i ++ [((at4 raw (36 + 8 * i) : Int), (at4 raw (36 + 8 * i + 4) : Int), ())] := by
  unfold refsOf; rw [List.range_succ, List.map_append]; rfl
theorem refsOf_length (raw : List UInt8) (M : Nat) : (refsOf raw M).length = M := by simp [refsOf]
theorem refCells_snoc (l : List RefT) (x y : Int) : refCells (l ++ [(x, y, ())]) = refCells l ++ [.int .i64 x, .int .i64 y] := by unfold refCells; simp
theorem infoRef : (Tryd.prog.info? 23).map (fun i => (i.zero, i.size, i.bytes)) = some (some (.agg #[.int .i64 0, .int .i64 0]), 2, 16) := by kernel_rfl
theorem GB.bytes_iff (P : GBT) (raw : List UInt8) (h : Sha.sum (raw.drop 16) = raw.take 16) : GB.bytes P = raw ↔ GB.rest P = raw.drop 16 := by
  constructor
  · intro e
    rw [← e]
    unfold GB.bytes
    rw [← Sha.sum_len (GB.rest P), List.drop_left]
  · intro e
    unfold GB.bytes
    rw [e, h, List.take_append_drop]
theorem nosel1024 : Tryd.prog.eqGuardType Tryd.prog.depth 186 = false := by kernel_rfl
/-- Ahead of each ref that is read. -/
def ReadRel (w : World) (g0 gb : Nat) (k a s : Int) (raw : List UInt8) (M : Nat) (v : Value) (wr : World) : Prop :=
  ∃ (i : Nat) (v3 : Value) (sp : List Value), i ≤ M ∧ v = .int .i64 (i : Int) ∧ Blk wr g0 46 zeroGB ∧ Blk wr gb 46 #[.int .i64 k, .int .i64 a, .int .i64 s, v3, .slice none 0 0] ∧
    OwnsC 23 2 wr (gb + 1) v3 i (refCells (refsOf raw i)) sp ∧ Below w.heap.size w wr
set_option maxHeartbeats 2000000 in
set_option maxRecDepth 100000 in
theorem gbRead_any (A : Option Addr) (n c : Nat) (raw : List UInt8) (hn : n = raw.length) (hc : n ≤ c) (hc2 : c ≤ 9223372036854775807) (w : World) (hb : Bytes w A raw) :
    Calls Tryd.prog 73 #[.slice A n c] w (ReadPost (GB.read raw).2 (GB.read raw).1 w) := by
  by_cases h1 : n = 1024
  case neg =>
    have hrd : Hid (GB.read raw = (4, GB.none_)) := Lib.hid (by unfold GB.read; rw [if_pos (by omega)])
    rw [hrd.out]
    clear hn
    have H1 : ((n : Int) != 1024) = true := by rw [bne_iff_ne]; omega
    go_enter Tryd.func73, Tryd.ntmps73
    go_wp2
    refine bodyPost_ret (results_row_tmp (by rfl) _ _ w.heap.size _ _ _ (by rfl) (Blk.new _ _ _) Tryd.underlying46 (by rfl) sizeGB) rfl (ReadPost.none ((Below.refl _ _).alloc (Nat.le_refl _) _))
  subst h1
  obtain ⟨b, off, rfl, hbl, hcell⟩ := hb.at_ (by omega)
  have HN : Hid (raw.length = 1024) := Lib.hid hn.symm
  clear hn hcell
  have hg0 := Blk.new w 46 zeroGB
  have hB0 : Below w.heap.size w (w.alloc (.cells zeroGB 46)) := (Below.refl _ _).alloc (Nat.le_refl _) _
  have hc16 : ¬ c = 16 := by omega
  have hb1 := Bytes.below hb hB0
  go_enter Tryd.func73, Tryd.ntmps73
  go_wp2_with fail
  generalize hw1 : w.alloc (.cells #[.int .i64 0, .int .i64 0, .int .i64 0, .slice none 0 0, .slice none 0 0] 46) = w1
  have hw1' : w.alloc (.cells zeroGB 46) = w1 := hw1
  rw [hw1'] at hg0 hB0 hb1
  clear hw1 hw1'
  obtain ⟨g0, hgn⟩ : ∃ g0, g0 = w.heap.size := ⟨_, rfl⟩
  rw [← hgn] at hg0 ⊢
  have HGN := Lib.hid hgn
  clear hgn
  obtain ⟨T, hT⟩ : ∃ T, T = raw.take 16 := ⟨_, rfl⟩
  obtain ⟨D, hD⟩ : ∃ D, D = raw.drop 16 := ⟨_, rfl⟩
  have hTl : T.length = 16 := by rw [hT, List.length_take, HN.out]; rfl
  have hDl : D.length = 1008 := by rw [hD, List.length_drop, HN.out]
  have hbD : Bytes w1 (some ⟨b, off + 16, none⟩) D := by
    have h := hb1.drop (k := 16) (cap := c) (by omega)
    rw [if_neg hc16, ← hD] at h
    simpa [Addr.add_lit] using h
  have hbT : Bytes w1 (some ⟨b, off, none⟩) T := by rw [hT]; exact hb1.take 16
  have HT := Lib.hid hT
  have HD := Lib.hid hD
  have HTl := Lib.hid hTl
  have HDl := Lib.hid hDl
  clear hT hD hTl hDl
  refine wp_region_plan (Below w1.heap.size w1) [] [(true, 0), (true, 1), (true, 2), (true, 3), (true, 4), (true, 5), (false, 6), (false, 7)] (by kernel_rfl) (by kernel_rfl) (fun c a a' w h q => ⟨h ▸ q.1, q.2⟩) (Below.refl _ _).drew ?_
  refine wpPlan_pure [0, 1, 2, 3, 4] [(true, 5), (false, 6), (false, 7)] _ (by rfl) (by rfl) ?_
  dsimp only [List.filterMap, List.getElem?_cons_zero, List.getElem?_cons_succ]
  repeat (go_big_quiet_step (fail))
  refine wpQuiet_array (by rfl) _ _ (by rfl) 16 _ Tryd.underlying184 (some ⟨b, off, none⟩) 16 c (by rfl) (Nat.le_refl _) ?_
  simp only [Act.put, List.setIfInBounds_toArray, List.set_cons_zero, List.set_cons_succ]
  refine wpQuiet_nil ?_
  refine wpPlan_takeL [5] [(false, 6), (false, 7)] _ (by rfl) (by rfl) (Below.refl _ _).drew ?_
  dsimp only [List.filterMap, List.getElem?_cons_zero, List.getElem?_cons_succ]
  refine wpQuiet_load_mid (fun w' hw' => (Bytes.below hbT hw').range) (by rfl) _ _ (by rfl) (by rfl) _ Tryd.underlying184 (by rfl) size16 (by rw [List.length_map]; exact HTl.out) ?_
  simp only [Act.put, List.setIfInBounds_toArray, List.set_cons_zero, List.set_cons_succ]
  refine wpQuiet_nil ?_
  refine wpPlan_forceL _ rfl ?_
  go_wp2_with fail
  refine (right_seal_any (some ⟨b, off + 16, none⟩) 1008 (c - 16) D T HDl.out.symm (by rw [HDl.out]; omega) ⟨by rw [HDl.out]; omega, by omega⟩ HTl.out w1.drew hbD).mono ?_
  rintro e w2 ⟨rfl, hbx⟩
  have hBx : Below w1.heap.size w1 w2 := (Below.refl _ _).drew.trans hbx
  have hb2 := Bytes.below hb1 hBx
  have hg2 := keep hBx hg0
  have hB2 := hB0.trans (hBx.mono hB0.size)
  clear hbx hbD hbT hb1 hg0 hB0
  go_wp2_with fail
  refine PlanQ.in_ hBx ?_
  refine wpPlan_forceL _ rfl ?_
  by_cases hseal : Sha.sum D = T
  case neg =>
    have hrd : Hid (GB.read raw = (12, GB.none_)) := Lib.hid (by
      unfold GB.read
      rw [if_neg (by rw [HN.out]; simp), if_pos (by rw [← HT.out, ← HD.out]; exact hseal)])
    rw [decide_eq_false hseal]
    go_wp2_with fail
    refine PlanQ.in_ hBx ?_
    refine wpPlan_nil ?_
    clear hseal
    go_wp2_with (first
      | ((with_reducible show wpList _ _ _ ((⟨none, _, _, _, _, _⟩ : Oper) :: _) _ _); refine wpList_store_blk (o := ⟨none, _, _, _, _, _⟩) (hg2) (by rfl) _ _ _ (by rfl) (by rfl) (zeroGB) (by rfl) (sizeGB) (by rfl) (by rfl) (by exact zeroGB_one) ?_; intro w3 h3 hu3)
      | fail)
    refine bodyPost_ret (results_row_tmp (by rfl) _ _ g0 _ _ _ (by rfl) h3 Tryd.underlying46 (by rfl) sizeGB) rfl ?_
    rw [hrd.out]
    exact ReadPost.none (hB2.upd hu3 (by rw [HGN.out]; exact Nat.le_refl _))
  rw [decide_eq_true hseal]
  have HSEAL : Hid (Sha.sum (raw.drop 16) = raw.take 16) := Lib.hid (by rw [← HD.out, ← HT.out]; exact hseal)
  go_wp2_with fail
  refine PlanQ.in_ hBx ?_
  refine wpPlan_nil ?_
  clear hseal hBx
  have num : ∀ (p : Nat) (wx : World), p + 4 ≤ 1024 → Bytes wx (some ⟨b, off, none⟩) raw → Calls Tryd.prog 129 #[.slice (some ⟨b, off, none⟩) 1024 c, .int .i64 p] wx fun e w' => e = .returned (.int .i64 (at4 raw p)) ∧ Below wx.heap.size wx w' := fun p wx hp hbx => by
    have := number_any (some ⟨b, off, none⟩) c p raw (by rw [HN.out]; exact hp) (by rw [HN.out]; omega) wx hbx
    rw [HN.out] at this
    exact this
  have NUM := Lib.hid num
  clear num
  go_wp2_with fail
  refine (NUM.out 16 w2 (by omega) hb2).mono ?_
  rintro e w3 ⟨rfl, hbx⟩
  (replace hb2 := keep hbx hb2; replace hg2 := keep hbx hg2; replace hB2 := hB2.trans (hbx.mono hB2.size); clear hbx)
  go_wp2_with fail
  refine (NUM.out 20 w3 (by omega) hb2).mono ?_
  rintro e w4 ⟨rfl, hbx⟩
  (replace hb2 := keep hbx hb2; replace hg2 := keep hbx hg2; replace hB2 := hB2.trans (hbx.mono hB2.size); clear hbx)
  go_wp2_with fail
  refine (NUM.out 24 w4 (by omega) hb2).mono ?_
  rintro e w5 ⟨rfl, hbx⟩
  (replace hb2 := keep hbx hb2; replace hg2 := keep hbx hg2; replace hB2 := hB2.trans (hbx.mono hB2.size); clear hbx)
  go_wp2_with fail
  have hbx := (Below.refl w5.heap.size w5).alloc (Nat.le_refl _) (.cells #[.int .i64 (at4 raw 16), .int .i64 (at4 raw 20), .int .i64 (at4 raw 24), .slice none 0 0, .slice none 0 0] 46)
  have hgb := Blk.new w5 46 #[.int .i64 (at4 raw 16), .int .i64 (at4 raw 20), .int .i64 (at4 raw 24), .slice none 0 0, .slice none 0 0]
  have hgne : g0 < w5.heap.size := hg2.lt
  generalize w5.alloc (.cells #[.int .i64 (at4 raw 16), .int .i64 (at4 raw 20), .int .i64 (at4 raw 24), .slice none 0 0, .slice none 0 0] 46) = w6 at hbx hgb ⊢
  have hgw : w.heap.size ≤ w5.heap.size := hB2.size
  (replace hb2 := keep hbx hb2; replace hg2 := keep hbx hg2; replace hB2 := hB2.trans (hbx.mono hB2.size); clear hbx)
  generalize w5.heap.size = gb at hgne hgw hgb ⊢
  refine (NUM.out 28 w6 (by omega) hb2).mono ?_
  rintro e w7 ⟨rfl, hbx⟩
  (replace hb2 := keep hbx hb2; replace hg2 := keep hbx hg2; replace hgb := keep hbx hgb; replace hB2 := hB2.trans (hbx.mono hB2.size); clear hbx)
  go_wp2_with fail
  refine (NUM.out 32 w7 (by omega) hb2).mono ?_
  rintro e w8 ⟨rfl, hbx⟩
  (replace hb2 := keep hbx hb2; replace hg2 := keep hbx hg2; replace hgb := keep hbx hgb; replace hB2 := hB2.trans (hbx.mono hB2.size); clear hbx)
  have hm := at4_lt raw 28
  have hz := at4_lt raw 32
  obtain ⟨M, hM⟩ : ∃ M, M = at4 raw 28 := ⟨_, rfl⟩
  obtain ⟨Z, hZ⟩ : ∃ Z, Z = at4 raw 32 := ⟨_, rfl⟩
  rw [← hM] at hm ⊢
  rw [← hZ] at hz ⊢
  have HM := Lib.hid hM
  have HZ := Lib.hid hZ
  clear hM hZ
  by_cases hbig : 16 < M ∨ 860 < Z
  case pos =>
    have hrd : Hid (GB.read raw = (4, GB.none_)) := Lib.hid (by
      unfold GB.read
      rw [if_neg (by rw [HN.out]; simp), if_neg (by rw [HSEAL.out]; simp), ← HM.out, ← HZ.out, if_pos hbig])
    by_cases hM16 : 16 < M
    all_goals
      go_wp2_with (first
        | ((with_reducible show wpList _ _ _ ((⟨none, _, _, _, _, _⟩ : Oper) :: _) _ _); refine wpList_store_blk (o := ⟨none, _, _, _, _, _⟩) (hg2) (by rfl) _ _ _ (by rfl) (by rfl) (zeroGB) (by rfl) (sizeGB) (by rfl) (by rfl) (by exact zeroGB_one) ?_; intro w3 h3 hu3)
        | fail)
      refine bodyPost_ret (results_row_tmp (by rfl) _ _ g0 _ _ _ (by rfl) h3 Tryd.underlying46 (by rfl) sizeGB) rfl ?_
      rw [hrd.out]
      exact ReadPost.none (hB2.upd hu3 (by rw [HGN.out]; exact Nat.le_refl _))
  have hM16 : ¬ 16 < M := fun h => hbig (.inl h)
  have hZ16 : ¬ 860 < Z := fun h => hbig (.inr h)
  clear hbig
  go_wp2_with fail
  go_loopw [41] (fun v wr => ReadRel w g0 gb (at4 raw 16) (at4 raw 20) (at4 raw 24) raw M v wr) (fun v _ => M - (intOf v).toNat)
  case atStart => exact ⟨0, _, [], by omega, rfl, hg2, hgb, OwnsC.nil _ _ _ _, hB2⟩
  case round =>
    clear hg2 hgb hb2 hB2
    obtain ⟨i, v3, sp, hi, rfl, hg2, hgb, hown, hBr⟩ := hrel
    have hbr := Bytes.below hb hBr
    have hgl := hgb.lt
    by_cases hlt : i < M
    · go_wp2_with fail
      refine wp_region_plan (fun w' => Blk w' gb 46 #[.int .i64 (at4 raw 16), .int .i64 (at4 raw 20), .int .i64 (at4 raw 24), v3, .slice none 0 0]) [17]
        [(true, 0), (true, 2), (true, 3), (true, 4), (true, 5), (true, 7), (true, 8), (true, 9), (true, 10), (true, 11), (true, 1), (false, 6), (false, 12), (true, 13), (false, 14), (false, 15), (true, 16), (false, 17)] (by kernel_rfl) (by kernel_rfl) (fun c a a' w h q => ⟨h ▸ q.1, q.2⟩) hgb.drew ?_
      refine wpPlan_pure [0, 2, 3, 4, 5, 7, 8, 9, 10, 11] [(true, 1), (false, 6), (false, 12), (true, 13), (false, 14), (false, 15), (true, 16), (false, 17)] _ (by rfl) (by rfl) ?_
      dsimp only [List.filterMap, List.getElem?_cons_zero, List.getElem?_cons_succ]
      repeat (go_big_quiet_step (fail))
      refine wpQuiet_nil ?_
      refine wpPlan_takeL [1] [(false, 6), (false, 12), (true, 13), (false, 14), (false, 15), (true, 16), (false, 17)] _ (by rfl) (by rfl) hgb.drew ?_
      dsimp only [List.filterMap, List.getElem?_cons_zero, List.getElem?_cons_succ]
      (refine wpQuiet_load_cell (fun w' hw' => Blk.at_ (v := v3) hw' 3 (by simp)) (by rfl) _ _ (by rfl) (by rfl) _ Tryd.underlying29 (by rfl) ?_; simp only [Act.put, List.setIfInBounds_toArray, List.set_cons_zero, List.set_cons_succ])
      refine wpQuiet_nil ?_
      refine wpPlan_forceL _ rfl ?_
      go_wp2_with fail
      rw [show (36 : Int) + 8 * (i : Int) = ((36 + 8 * i : Nat) : Int) by omega]
      refine (NUM.out (36 + 8 * i) wr.drew (by omega) hbr).mono ?_
      rintro e w9 ⟨rfl, hbx⟩
      have hgb9 := keep hbx hgb.drew
      have hg29 := keep hbx hg2.drew
      have hown9 : OwnsC 23 2 w9 (gb + 1) v3 i (refCells (refsOf raw i)) sp := OwnsC.ownBelow (w := wr.drew) hown hbx
      have hB9 := hBr.drew.trans (hbx.mono hBr.size)
      have hb9 := Bytes.below hb hB9
      clear hbx hgb hg2 hown hBr hbr hgl
      go_wp2_with fail
      refine PlanQ.in_ hgb9 ?_
      refine wpPlan_forceL _ rfl ?_
      go_wp2_with fail
      rw [show (36 : Int) + 8 * (i : Int) + 4 = ((36 + 8 * i + 4 : Nat) : Int) by omega]
      refine (NUM.out (36 + 8 * i + 4) w9 (by omega) hb9).mono ?_
      rintro e w10 ⟨rfl, hbx⟩
      (replace hgb9 := keep hbx hgb9; replace hg29 := keep hbx hg29; replace hown9 := keep hbx hown9; replace hB9 := hB9.trans (hbx.mono hB9.size); clear hbx hb9)
      go_wp2_with fail
      refine PlanQ.in_ hgb9 ?_
      refine wpPlan_pure [13] [(false, 14), (false, 15), (true, 16), (false, 17)] _ (by rfl) (by rfl) ?_
      dsimp only [List.filterMap, List.getElem?_cons_zero, List.getElem?_cons_succ]
      repeat (go_big_quiet_step (fail))
      refine wpQuiet_nil ?_
      refine wpPlan_forceL _ rfl ?_
      go_wp2_with fail
      have hbx := (Below.refl w10.heap.size w10).alloc (Nat.le_refl _) (.cells #[.int .i64 (at4 raw (36 + 8 * i)), .int .i64 (at4 raw (36 + 8 * i + 4))] 23)
      have hnew := (Blk.new w10 23 #[.int .i64 (at4 raw (36 + 8 * i)), .int .i64 (at4 raw (36 + 8 * i + 4))])
      generalize w10.alloc (.cells #[.int .i64 (at4 raw (36 + 8 * i)), .int .i64 (at4 raw (36 + 8 * i + 4))] 23) = w11 at hbx hnew ⊢
      (replace hgb9 := keep hbx hgb9; replace hg29 := keep hbx hg29; replace hown9 := keep hbx hown9; replace hB9 := hB9.trans (hbx.mono hB9.size); clear hbx)
      refine PlanQ.in_ hgb9 ?_
      refine wpPlan_forceL _ rfl ?_
      have hrd : Reads w11 (some ⟨w10.heap.size, 0, none⟩) [.int .i64 (at4 raw (36 + 8 * i)), .int .i64 (at4 raw (36 + 8 * i + 4))] := fun _ => ⟨_, 0, rfl, fun j v hv => by
        rw [Nat.zero_add, hnew.cell]; simpa using hv⟩
      have hgl := hgb9.lt
      refine wpList_append_allG (by rfl) _ _ _ (by rfl) (gb + 1) 23 (.agg #[.int .i64 0, .int .i64 0]) 2 16 Tryd.underlying29 infoRef (by rfl) (by omega) v3 i (refCells (refsOf raw i)) sp (by rfl) hown9 (some ⟨w10.heap.size, 0, none⟩) 1 1 _ (by rfl) (by rfl) hrd (by simp [Value.oneCell']) (by unfold maxLen; omega) (by omega) (by omega) ?_
      intro v12 w12 sp12 hown12 hgr12
      obtain ⟨A12, c12, rfl, _, _, _, _⟩ := OwnsC.reads hown12
      have hne12 : v3.ownBlock ≠ some gb := fun e => by have := (OwnsC.lt hown9 gb e).1; omega
      have hne0 : v3.ownBlock ≠ some g0 := fun e => by have := (OwnsC.lt hown9 g0 e).1; omega
      have hgb12 : Blk w12 gb 46 #[.int .i64 (at4 raw 16), .int .i64 (at4 raw 20), .int .i64 (at4 raw 24), v3, .slice none 0 0] := (hgr12.block gb hgl (Ne.symm hne12)).trans hgb9
      have hg012 : Blk w12 g0 46 zeroGB := (hgr12.block g0 hg29.lt (Ne.symm hne0)).trans hg29
      have hB12 : Below w.heap.size w w12 := hB9.grown hgr12 hB9.size (fun k hk => by have := (OwnsC.lt hown9 k hk).1; omega)
      clear hgr12 hown9 hB9 hgb9 hg29 hrd hnew
      refine wpList_nil ?_
      refine PlanQ.in_ hgb12 ?_
      simp only [Act.put, List.setIfInBounds_toArray, List.set_cons_zero, List.set_cons_succ]
      refine wpPlan_pure [16] [(false, 17)] _ (by rfl) (by rfl) ?_
      dsimp only [List.filterMap, List.getElem?_cons_zero, List.getElem?_cons_succ]
      repeat (go_big_quiet_step (fail))
      refine wpQuiet_nil ?_
      refine wpPlan_forceL _ rfl ?_
      have d3 := hgb12.at_ (v := v3) 3 (by simp)
      have f3 := hgb12.frozen 3
      have hgb13 := (hgb12.set_ 3 (.slice A12 (i + 1) c12)).sub (cs' := #[.int .i64 (at4 raw 16), .int .i64 (at4 raw 20), .int .i64 (at4 raw 24), .slice A12 (i + 1) c12, .slice none 0 0]) (by simp)
      have hg013 := hg012.off (c := gb) (by omega) (i := 3) (.slice A12 (i + 1) c12)
      have hown13 := OwnsC.off (c := gb) (i := 3) hown12 (fun e => by have := (OwnsC.lt hown12 gb e).1; omega) (.slice A12 (i + 1) c12)
      have hB13 := hB12.set_ (c := gb) (i := 3) (by omega) (.slice A12 (i + 1) c12)
      have HOWN : Hid (OwnsC 23 2 (w12.setCell ⟨gb, 3, none⟩ (.slice A12 (i + 1) c12)) (gb + 1) (.slice A12 (i + 1) c12) (i + 1) (refCells (refsOf raw (i + 1))) sp12) := Lib.hid (by
        rw [refsOf_succ, refCells_snoc]; exact hown13)
      clear hown12 hown13 hgb12 hg012 hB12
      go_wp2_with fail
      refine PlanQ.out (by rfl) ?_
      refine wpPlan_nil ?_
      clear d3 f3
      go_wp2
      first
        | (go_roundw
           case rel => exact ⟨i + 1, _, sp12, by omega, by go_num, hg013, hgb13, HOWN.out, hB13⟩
           case measure => simp [intOf]; omega)
        | (refine ⟨?_, ?_⟩
           · (repeat apply Exists.intro)
             exact ⟨⟨i + 1, _, sp12, by omega, by go_num, hg013, hgb13, HOWN.out, hB13⟩, rfl⟩
           · simp [intOf]; omega)
    · obtain rfl : i = M := by omega
      obtain ⟨A3, c3, rfl, hc3, hc3m, hr3, _⟩ := OwnsC.reads hown
      clear hr3
      obtain ⟨BD, hBD⟩ : ∃ BD, BD = (raw.drop 164).take Z := ⟨_, rfl⟩
      have hBDl : Hid (BD.length = Z) := Lib.hid (by rw [hBD, List.length_take, List.length_drop, HN.out]; omega)
      have hbBD : Bytes wr (some ⟨b, off + 164, none⟩) BD := by
        have h := hbr.drop (k := 164) (cap := c) (by omega)
        rw [if_neg (by omega)] at h
        have h2 := h.take Z
        rw [← hBD] at h2
        simpa [Addr.add_lit] using h2
      have HBD := Lib.hid hBD
      clear hBD
      go_wp2_with (first
        | (show wpList _ _ _ ((⟨some 66, _, _, _, _, _⟩ : Oper) :: _) _ _; refine wpList_append_bytes (o := ⟨some 66, _, _, _, _, _⟩) (by rfl) _ _ _ (by rfl) (gb + 1) _ Tryd.underlying44 u8info (.slice none 0 0) [] [] (by rfl) (OwnsC.nil _ _ _ _) (some ⟨b, off + 164, none⟩) (c - 164) BD (by rw [hBDl.out]; show Value.slice _ _ _ = _; congr 1 <;> omega) hbBD (by simp; rw [hBDl.out]; omega) (by omega) ?_; intro v4 w4 sp4 ho4 hg4 _ _; have hbx := (Below.refl wr.heap.size wr).grown hg4 (Nat.le_refl _) (fun k hk => by cases hk); obtain ⟨A4, c4, rfl, hc4, hm4, hs4⟩ := OwnB.open_ ho4; (rw [List.nil_append] at ho4 hc4 hs4 ⊢); (replace hown := keep hbx hown; replace hgb := keep hbx hgb; replace hg2 := keep hbx hg2; replace hbr := keep hbx hbr; replace hBr := hBr.trans (hbx.mono hBr.size)); have d4 := hgb.at_ (v := .slice none 0 0) 4 (by simp); have f4 := hgb.frozen 4; clear hbx hg4 hbBD)
        | fail)
      have hown5 := OwnsC.off (c := gb) (i := 4) hown (fun e => by have := (OwnsC.lt hown gb e).1; omega) (.slice A4 BD.length c4)
      have ho5 : OwnB 5 (w4.setCell ⟨gb, 4, none⟩ (.slice A4 BD.length c4)) (gb + 1) (.slice A4 BD.length c4) BD sp4 := OwnsC.off (c := gb) (i := 4) ho4 (fun e => by have := (OwnsC.lt ho4 gb e).1; omega) (.slice A4 BD.length c4)
      have hgb5 := (hgb.set_ 4 (.slice A4 BD.length c4)).sub (cs' := #[.int .i64 (at4 raw 16), .int .i64 (at4 raw 20), .int .i64 (at4 raw 24), .slice A3 i c3, .slice A4 BD.length c4]) (by simp)
      have hg05 := hg2.off (c := gb) (by omega) (i := 4) (.slice A4 BD.length c4)
      have hB5 := hBr.set_ (c := gb) (i := 4) (by omega) (.slice A4 BD.length c4)
      generalize w4.setCell ⟨gb, 4, none⟩ (.slice A4 BD.length c4) = w5 at hown5 ho5 hgb5 hg05 hB5 ⊢
      clear hown ho4 hgb hg2 hBr hbr d4 f4 hs4
      have hbr5 := Bytes.below hb hB5
      obtain ⟨_, _, e3, _, _, hr3, _⟩ := OwnsC.reads hown5
      simp only [Value.slice.injEq] at e3
      obtain ⟨rfl, _, rfl⟩ := e3
      have hA3 : ∀ ad, A3 = some ad → g0 < ad.block := fun ad had => by
        have := (OwnsC.lt hown5 ad.block (by rw [had]; rfl)).1
        omega
      have hrefs : Refs w5 A3 (refsOf raw i) := Refs.of hr3
      have hrl : Hid ((refsOf raw i).length = i) := Lib.hid (refsOf_length raw i)
      obtain ⟨_, _, e4, _, _, hbd5⟩ := OwnB.open_ ho5
      simp only [Value.slice.injEq] at e4
      obtain ⟨rfl, _, rfl⟩ := e4
      have hA4 : ∀ ad, A4 = some ad → g0 < ad.block := fun ad had => by
        have := (OwnsC.lt ho5 ad.block (by rw [had]; rfl)).1
        omega
      clear hr3 hown5 ho5
      have hP : Hid (GB.parse raw = ((at4 raw 16 : Int), ((at4 raw 20 : Int), (at4 raw 24 : Int), ()), refsOf raw i, BD, ())) := Lib.hid (by
        unfold GB.parse
        rw [← HM.out, ← HZ.out, ← HBD.out]; rfl)
      have hread : Hid (GB.read raw = if GB.ok (GB.parse raw) = true ∧ GB.rest (GB.parse raw) = raw.drop 16 then (0, GB.parse raw) else (4, GB.none_)) := Lib.hid (by
        unfold GB.read
        rw [if_neg (by rw [HN.out]; simp), if_neg (by rw [HSEAL.out]; simp), ← HM.out, ← HZ.out, if_neg (by omega)])
      have chk : ∀ wx, Refs wx A3 (refsOf raw i) → Calls Tryd.prog 96 #[.agg #[.int .i64 (at4 raw 16), .int .i64 (at4 raw 20), .int .i64 (at4 raw 24), .slice A3 i c3, .slice A4 BD.length c4]] wx fun e w' => e = .returned (.int .i64 (GB.code (GB.parse raw))) ∧ Below wx.heap.size wx w' := fun wx hx => by
        have := check_any (at4 raw 16) (at4 raw 20) (at4 raw 24) A3 A4 c3 c4 (refsOf raw i) BD (by rw [hrl.out]; omega) (by rw [hBDl.out]; omega) wx hx
        rw [hrl.out, ← hP.out] at this
        exact this
      have CHK := Lib.hid chk
      have lay : GB.ok (GB.parse raw) = true → ∀ wx, Refs wx A3 (refsOf raw i) → Bytes wx A4 BD → Calls Tryd.prog 130 #[.agg #[.int .i64 (at4 raw 16), .int .i64 (at4 raw 20), .int .i64 (at4 raw 24), .slice A3 i c3, .slice A4 BD.length c4]] wx fun e w' => e = .returned (.agg ((GB.bytes (GB.parse raw)).map u8v).toArray) ∧ Below wx.heap.size wx w' := fun hok wx hx hy => by
        have := laid_any (at4 raw 16) (at4 raw 20) (at4 raw 24) A3 A4 c3 c4 (refsOf raw i) BD (by rw [← hP.out]; exact hok) wx hx hy
        rw [hrl.out, ← hP.out] at this
        exact this
      have LAY := Lib.hid lay
      clear chk lay
      refine wp_region_plan (Below w5.heap.size w5) [] [(true, 0), (false, 1), (true, 2), (true, 3), (true, 6), (true, 7), (true, 4), (true, 8), (false, 5), (true, 9), (true, 10)] (by kernel_rfl) (by kernel_rfl) (fun c a a' w h q => ⟨h ▸ q.1, q.2⟩) (Below.refl _ _).drew ?_
      refine wpPlan_takeL [0] [(false, 1), (true, 2), (true, 3), (true, 6), (true, 7), (true, 4), (true, 8), (false, 5), (true, 9), (true, 10)] _ (by rfl) (by rfl) (Below.refl _ _).drew ?_
      dsimp only [List.filterMap, List.getElem?_cons_zero, List.getElem?_cons_succ]
      refine wpQuiet_load_blk (fun w' hw' => hgb5.below hw' hgb5.lt) (by rfl) _ _ (by rfl) (by rfl) _ Tryd.underlying46 (by rfl) sizeGB (by rfl) ?_
      simp only [Act.put, List.setIfInBounds_toArray, List.set_cons_zero, List.set_cons_succ]
      refine wpQuiet_nil ?_
      refine wpPlan_forceL _ rfl ?_
      go_wp2_with fail
      refine (CHK.out w5.drew hrefs).mono ?_
      rintro e w6 ⟨rfl, hbx⟩
      have hC6 : Below w5.heap.size w5 w6 := (Below.refl _ _).drew.trans hbx
      clear hbx
      cases hok : GB.ok (GB.parse raw)
      · have hrd : Hid (GB.read raw = (4, GB.none_)) := Lib.hid (by rw [hread.out, if_neg (by rw [hok]; simp)])
        rw [GB.code_no hok]
        clear hok
        go_wp2_with fail
        refine PlanQ.in_ hC6 ?_
        refine wpPlan_pure [2, 3, 6, 7] [(true, 4), (true, 8), (false, 5), (true, 9), (true, 10)] _ (by rfl) (by rfl) ?_
        dsimp only [List.filterMap, List.getElem?_cons_zero, List.getElem?_cons_succ]
        repeat (go_big_quiet_step (fail))
        refine wpQuiet_nil ?_
        refine wpPlan_takeL [4, 8] [(false, 5), (true, 9), (true, 10)] _ (by rfl) (by rfl) hC6 ?_
        dsimp only [List.filterMap, List.getElem?_cons_zero, List.getElem?_cons_succ]
        repeat (go_big_quiet_step (fail))
        refine wpQuiet_nil ?_
        refine wpPlan_forceL _ rfl ?_
        go_wp2_with fail
        refine PlanQ.in_ hC6 ?_
        refine wpPlan_pure [9, 10] [] _ (by rfl) (by rfl) ?_
        dsimp only [List.filterMap, List.getElem?_cons_zero, List.getElem?_cons_succ]
        repeat (go_big_quiet_step (fail))
        refine wpQuiet_nil ?_
        refine wpPlan_nil ?_
        have hg06 := keep hC6 hg05
        have hB6 := hB5.trans (hC6.mono hB5.size)
        go_wp2_with (first
          | ((with_reducible show wpList _ _ _ ((⟨none, _, _, _, _, _⟩ : Oper) :: _) _ _); refine wpList_store_blk (o := ⟨none, _, _, _, _, _⟩) (hg06) (by rfl) _ _ _ (by rfl) (by rfl) (zeroGB) (by rfl) (sizeGB) (by rfl) (by rfl) (by exact zeroGB_one) ?_; intro w3 h3 hu3)
          | fail)
        refine bodyPost_ret (results_row_tmp (by rfl) _ _ g0 _ _ _ (by rfl) h3 Tryd.underlying46 (by rfl) sizeGB) rfl ?_
        rw [hrd.out]
        exact ReadPost.none (hB6.upd hu3 (by rw [HGN.out]; exact Nat.le_refl _))
      · rw [GB.code_ok hok]
        have HOK := Lib.hid hok
        clear hok
        go_wp2_with fail
        refine PlanQ.in_ hC6 ?_
        refine wpPlan_pure [2, 3, 6, 7] [(true, 4), (true, 8), (false, 5), (true, 9), (true, 10)] _ (by rfl) (by rfl) ?_
        dsimp only [List.filterMap, List.getElem?_cons_zero, List.getElem?_cons_succ]
        repeat (go_big_quiet_step (fail))
        refine wpQuiet_want' (by rfl) ?_
        refine wpQuiet_array (by rfl) _ _ (by rfl) 1024 _ Tryd.underlying186 (some ⟨b, off, none⟩) 1024 c (by rfl) (Nat.le_refl _) ?_
        simp only [Act.put, List.setIfInBounds_toArray, List.set_cons_zero, List.set_cons_succ]
        refine wpQuiet_nil ?_
        refine wpPlan_takeL [4, 8] [(false, 5), (true, 9), (true, 10)] _ (by rfl) (by rfl) hC6 ?_
        dsimp only [List.filterMap, List.getElem?_cons_zero, List.getElem?_cons_succ]
        refine wpQuiet_want' (by rfl) ?_
        refine wpQuiet_load_blk (fun w' hw' => hgb5.below hw' hgb5.lt) (by rfl) _ _ (by rfl) (by rfl) _ Tryd.underlying46 (by rfl) sizeGB (by rfl) ?_
        simp only [Act.put, List.setIfInBounds_toArray, List.set_cons_zero, List.set_cons_succ]
        refine wpQuiet_want' (by rfl) ?_
        refine wpQuiet_load_mid (fun w' hw' => (Bytes.below hbr5 hw').range) (by rfl) _ _ (by rfl) (by rfl) _ Tryd.underlying186 (by rfl) size1024 (by rw [List.length_map]; exact HN.out) ?_
        simp only [Act.put, List.setIfInBounds_toArray, List.set_cons_zero, List.set_cons_succ]
        refine wpQuiet_nil ?_
        refine wpPlan_forceL _ rfl ?_
        have hr6 := keep hC6 hrefs
        have hd6 := keep hC6 hbd5
        go_wp2_with fail
        refine (LAY.out HOK.out w6 hr6 hd6).mono ?_
        rintro e w7 ⟨rfl, hbx⟩
        have hC7 : Below w5.heap.size w5 w7 := hC6.trans (hbx.mono hC6.size)
        clear hbx hC6 hr6 hd6
        go_wp2_with fail
        refine PlanQ.in_ hC7 ?_
        have hPl : (GB.bytes (GB.parse raw)).length = 1024 := by
          obtain ⟨_, _, h3, h4, _⟩ := GB.ok_spec HOK.out
          exact GB.bytes_length _ h3 h4
        refine wpPlan_pure [9, 10] [] _ (by rfl) (by rfl) ?_
        dsimp only [List.filterMap, List.getElem?_cons_zero, List.getElem?_cons_succ]
        refine wpQuiet_want' (by rfl) ?_
        refine wpQuiet_neq_bytesG (by rfl) _ _ _ _ _ (by rfl) 1024 Tryd.underlying186 Tryd.underlying5 size1 nosel1024 (GB.bytes (GB.parse raw)) raw (by rfl) (by rfl) hPl HN.out _ rfl ?_
        simp only [Act.put, List.setIfInBounds_toArray, List.set_cons_zero, List.set_cons_succ]
        repeat (go_big_quiet_step (fail))
        refine wpQuiet_nil ?_
        refine wpPlan_nil ?_
        have hg07 := keep hC7 hg05
        have hgb7 := keep hC7 hgb5
        have hB7 := hB5.trans (hC7.mono hB5.size)
        have hr7 := keep hC7 hrefs
        have hd7 := keep hC7 hbd5
        clear hPl hC7 hg05 hgb5 hB5 hrefs hbd5 hbr5
        by_cases heq : GB.bytes (GB.parse raw) = raw
        · have hrd : Hid (GB.read raw = (0, GB.parse raw)) := Lib.hid (by rw [hread.out, if_pos ⟨HOK.out, (GB.bytes_iff _ _ HSEAL.out).1 heq⟩])
          rw [decide_eq_true heq]
          clear heq
          go_wp2_with (first
            | ((with_reducible show wpList _ _ _ ((⟨some 80, _, _, _, _, _⟩ : Oper) :: _) _ _); refine wpList_load_blk (o := ⟨some 80, _, _, _, _, _⟩) (hgb7) (by rfl) _ _ (by rfl) (by rfl) _ Tryd.underlying46 (by rfl) (sizeGB) (by rfl) ?_)
            | ((with_reducible show wpList _ _ _ ((⟨none, _, _, _, _, _⟩ : Oper) :: _) _ _); refine wpList_store_blk (o := ⟨none, _, _, _, _, _⟩) (hg07) (by rfl) _ _ _ (by rfl) (by rfl) (#[.int .i64 (at4 raw 16), .int .i64 (at4 raw 20), .int .i64 (at4 raw 24), .slice A3 i c3, .slice A4 BD.length c4]) (by rfl) (sizeGB) (by rfl) (by rfl) (by simp [Value.oneCell']) ?_; intro w8 h8 hu8)
            | fail)
          refine bodyPost_ret (results_row_tmp (by rfl) _ _ g0 _ _ _ (by rfl) h8 Tryd.underlying46 (by rfl) sizeGB) rfl ?_
          rw [hrd.out, hP.out]
          refine ⟨A3, c3, A4, c4, ?_, Refs.of (Reads.upd (Refs.reads hr7) hu8 (fun ad e => Nat.ne_of_gt (hA3 ad e))), Reads.upd hd7 hu8 (fun ad e => Nat.ne_of_gt (hA4 ad e)), by rw [hrl.out]; exact hc3, hc4, hm4, hB7.upd hu8 (by rw [HGN.out]; exact Nat.le_refl _), fun ad e => by have := hA3 ad e; rw [HGN.out] at this; exact Nat.le_of_lt this, fun ad e => by have := hA4 ad e; rw [HGN.out] at this; exact Nat.le_of_lt this⟩
          simp only [hrl.out]
          rfl
        · have hrd : Hid (GB.read raw = (4, GB.none_)) := Lib.hid (by rw [hread.out, if_neg (fun h => heq ((GB.bytes_iff _ _ HSEAL.out).2 h.2))])
          rw [decide_eq_false heq]
          clear heq
          go_wp2_with (first
            | ((with_reducible show wpList _ _ _ ((⟨none, _, _, _, _, _⟩ : Oper) :: _) _ _); refine wpList_store_blk (o := ⟨none, _, _, _, _, _⟩) (hg07) (by rfl) _ _ _ (by rfl) (by rfl) (zeroGB) (by rfl) (sizeGB) (by rfl) (by rfl) (by exact zeroGB_one) ?_; intro w8 h8 hu8)
            | fail)
          refine bodyPost_ret (results_row_tmp (by rfl) _ _ g0 _ _ _ (by rfl) h8 Tryd.underlying46 (by rfl) sizeGB) rfl ?_
          rw [hrd.out]
          exact ReadPost.none (hB7.upd hu8 (by rw [HGN.out]; exact Nat.le_refl _))
end Proofs.YthfdjemlibecgaaDoor
end Go
