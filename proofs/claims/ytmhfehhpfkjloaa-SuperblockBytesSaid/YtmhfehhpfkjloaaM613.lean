/- Maps keyed by arrays or structs, in a block of the call's own: what is looked up, stored, stored through an entry. Plain facts over any program. No condition. -/
import Derived.Test.YtmhfehhpfkjloaaM612
import Derived.WideKeyRuns
import GoSem.Instr.MapEntry
import Derived.ChangeKeysEq
namespace Go
open Go.RowKit Go.Instr Go.MapKept
/-- Keys of a type: which values they are, that they may be keys, how they are compared. -/
structure KeyLaw (P : Program) (kt : TypeId) {α : Type} (ok : α → Prop) (enc : α → Value) : Prop where
  wide : (match P.underlying kt with | some (.array _ _) | some (.struct _) => true | _ => false) = true
  check : ∀ em x w, ok x → (checkKey em 10000 kt (enc x)).run P w = .ok () w
  eq : ∀ x y w, ok x → ok y → ∃ r : Bool, (Op.equal kt (enc x) (enc y)).run P w = .ok r w ∧ (r = true ↔ x = y)
  bits : ∀ x, ok x → sameBits 10000 (enc x) (enc x) = true
section
variable {α : Type}
def kfind [DecidableEq α] : List (α × Value) → α → Nat → Option (Nat × Value)
  | [], _, _ => none
  | p :: l, x, i => if x = p.1 then some (i, p.2) else kfind l x (i + 1)
def kget [DecidableEq α] (l : List (α × Value)) (x : α) : Option Value := (kfind l x 0).map (·.2)
/-- Where a key stands, or will stand. -/
def kat [DecidableEq α] (l : List (α × Value)) (x : α) : Nat := match kfind l x 0 with | some p => p.1 | none => l.length
/-- An entry is asked for. -/
def kask [DecidableEq α] (l : List (α × Value)) (x : α) (z : Value) : List (α × Value) := match kfind l x 0 with | some _ => l | none => l ++ [(x, z)]
def kput [DecidableEq α] (l : List (α × Value)) (x : α) (v : Value) : List (α × Value) := match kfind l x 0 with | some p => l.set p.1 (x, v) | none => l ++ [(x, v)]
theorem kfind_lt [DecidableEq α] {x : α} : ∀ (l : List (α × Value)) (i j : Nat) (v : Value), kfind l x i = some (j, v) → i ≤ j ∧ l[j - i]? = some (x, v)
  | [], _, _, _, h => by cases h
  | p :: l, i, j, v, h => by
    unfold kfind at h
    by_cases hx : x = p.1
    · rw [if_pos hx] at h
      injection h with h; injection h with h1 h2
      subst h1 h2
      exact ⟨Nat.le_refl _, by rw [Nat.sub_self, hx]; rfl⟩
    · rw [if_neg hx] at h
      obtain ⟨h1, h2⟩ := kfind_lt l (i + 1) j v h
      exact ⟨by omega, by rw [show j - i = (j - (i + 1)) + 1 by omega]; simpa using h2⟩
theorem kfind_shift [DecidableEq α] {x : α} : ∀ (l : List (α × Value)) (i : Nat), kfind l x i = (kfind l x 0).map fun p => (p.1 + i, p.2)
  | [], _ => rfl
  | p :: l, i => by
    unfold kfind
    by_cases hx : x = p.1
    · rw [if_pos hx, if_pos hx]; simp
    · rw [if_neg hx, if_neg hx, kfind_shift l (i + 1), kfind_shift l 1, Option.map_map]
      congr 1
      funext p
      simp only [Function.comp, Prod.mk.injEq, and_true]
      omega
theorem kget_cons [DecidableEq α] {p : α × Value} {l : List (α × Value)} {x : α} : kget (p :: l) x = if x = p.1 then some p.2 else kget l x := by
  unfold kget
  rw [kfind]
  by_cases hx : x = p.1
  · rw [if_pos hx, if_pos hx]; rfl
  · rw [if_neg hx, if_neg hx, kfind_shift l 1, Option.map_map]
    rfl
theorem kput_cons [DecidableEq α] {p : α × Value} {l : List (α × Value)} {x : α} {v : Value} : kput (p :: l) x v = if x = p.1 then (x, v) :: l else p :: kput l x v := by
  unfold kput
  rw [kfind]
  by_cases hx : x = p.1
  · rw [if_pos hx, if_pos hx]; rfl
  · rw [if_neg hx, if_neg hx, kfind_shift l 1]
    cases kfind l x 0 <;> rfl
theorem kget_put [DecidableEq α] (l : List (α × Value)) (x y : α) (v : Value) : kget (kput l x v) y = if y = x then some v else kget l y := by
  induction l with
  | nil =>
    show kget [(x, v)] y = _
    rw [kget_cons]
  | cons p l ih =>
    rw [kput_cons]
    by_cases hx : x = p.1
    · rw [if_pos hx, kget_cons, kget_cons]
      by_cases hy : y = x
      · rw [if_pos hy, if_pos hy]
      · rw [if_neg hy, if_neg hy, if_neg (by rw [← hx]; exact hy)]
    · rw [if_neg hx, kget_cons, kget_cons, ih]
      by_cases hy : y = p.1
      · rw [if_pos hy, if_pos hy, if_neg (by rw [hy]; exact fun e => hx e.symm)]
      · rw [if_neg hy, if_neg hy]
theorem kask_set [DecidableEq α] (l : List (α × Value)) (x : α) (z v : Value) : (kask l x z).set (kat l x) (x, v) = kput l x v := by
  unfold kask kat kput
  cases kfind l x 0 with
  | none => simp
  | some p => rfl
theorem kask_at [DecidableEq α] (l : List (α × Value)) (x : α) (z : Value) : ∃ v, (kask l x z)[kat l x]? = some (x, v) := by
  unfold kask kat
  cases h : kfind l x 0 with
  | none => exact ⟨z, by simp⟩
  | some p => exact ⟨p.2, by simpa using (kfind_lt l 0 p.1 p.2 h).2⟩
theorem kask_get [DecidableEq α] (l : List (α × Value)) (x : α) (z : Value) : (kget (kask l x z) x).getD z = (kget l x).getD z := by
  unfold kask
  cases h : kfind l x 0 with
  | some p => rfl
  | none =>
    have e : kput l x z = l ++ [(x, z)] := by unfold kput; rw [h]
    show (kget (l ++ [(x, z)]) x).getD z = _
    rw [← e, kget_put, if_pos rfl]
    unfold kget
    rw [h]; rfl
variable {P : Program} {kt : TypeId} {ok : α → Prop} {enc : α → Value}
/-- A map's entries are these pairs. -/
structure Says (ok : α → Prop) (enc : α → Value) (es : Array MapEntry) (c : Nat) (l : List (α × Value)) : Prop where
  pairs : es.toList.map (fun e => (e.key, e.val)) = l.map fun p => (enc p.1, p.2)
  born : (es.toList.map (·.born)).Nodup
  old : ∀ e ∈ es.toList, e.born < c
  ok : ∀ p ∈ l, ok p.1
def MapK (w : World) (g : Nat) (ok : α → Prop) (enc : α → Value) (l : List (α × Value)) : Prop := ∃ es c, MapB w g es c ∧ Says ok enc es c l
/-- And the entry of stamp b is the i-th. -/
def MapS (w : World) (g : Nat) (ok : α → Prop) (enc : α → Value) (l : List (α × Value)) (b : Int) (i : Nat) : Prop := ∃ es c, MapB w g es c ∧ Says ok enc es c l ∧ ∃ e, es[i]? = some e ∧ (e.born : Int) = b
theorem MapS.mapK {w : World} {g : Nat} {l : List (α × Value)} {b : Int} {i : Nat} (h : MapS w g ok enc l b i) : MapK w g ok enc l := by
  obtain ⟨es, c, h1, h2, _⟩ := h
  exact ⟨es, c, h1, h2⟩
theorem MapK.lt {w : World} {g : Nat} {l : List (α × Value)} (h : MapK w g ok enc l) : g < w.heap.size := by obtain ⟨es, c, h1, _⟩ := h; exact h1.lt
theorem MapK.near {w w' : World} {g : Nat} {l : List (α × Value)} {X : List Nat} (h : MapK w g ok enc l) (k : Near X w w') (hn : g ∉ X) : MapK w' g ok enc l := by obtain ⟨es, c, h1, h2⟩ := h; exact ⟨es, c, h1.near k hn, h2⟩
theorem MapS.near {w w' : World} {g : Nat} {l : List (α × Value)} {b : Int} {i : Nat} {X : List Nat} (h : MapS w g ok enc l b i) (k : Near X w w') (hn : g ∉ X) : MapS w' g ok enc l b i := by obtain ⟨es, c, h1, h2⟩ := h; exact ⟨es, c, h1.near k hn, h2⟩
theorem MapK.new (w : World) (c : Nat) : MapK (w.alloc (.map #[] c)) w.heap.size ok enc ([] : List (α × Value)) := ⟨#[], c, MapB.new w _ _, rfl, by simp, by simp, by simp⟩
theorem run_findAsking_k [DecidableEq α] (hk : KeyLaw P kt ok enc) (x : α) (hx : ok x) (w : World) : ∀ (es : List MapEntry) (l : List (α × Value)) (i : Nat), es.map (fun e => (e.key, e.val)) = l.map (fun p => (enc p.1, p.2)) → (∀ p ∈ l, ok p.1) → (findAsking kt (enc x) es i).run P w = .ok (kfind l x i) w
  | [], [], _, _, _ => by simp [findAsking, kfind]
  | [], _ :: _, _, h, _ => by simp at h
  | _ :: _, [], _, h, _ => by simp at h
  | e :: es, p :: l, i, h, ho => by
    simp only [List.map_cons, List.cons.injEq, Prod.mk.injEq] at h
    obtain ⟨⟨h1, h2⟩, h3⟩ := h
    obtain ⟨r, hr, hiff⟩ := hk.eq x p.1 w hx (ho p (.head _))
    have ih := run_findAsking_k hk x hx w es l (i + 1) h3 fun q hq => ho q (.tail _ hq)
    unfold findAsking kfind
    rw [h1]
    simp only [Sem.run_bind, hr, Result.andThen_ok]
    by_cases hxp : x = p.1
    · rw [hiff.2 hxp, if_pos hxp, h2]; simp
    · have : r = false := by cases r; rfl; exact absurd (hiff.1 rfl) hxp
      rw [this, if_neg hxp]
      simpa using ih
theorem run_findKey_k [DecidableEq α] (hk : KeyLaw P kt ok enc) (x : α) (hx : ok x) (w : World) {es : Array MapEntry} {c : Nat} {l : List (α × Value)} (hs : Says ok enc es c l) : (findKey kt (enc x) es.toList).run P w = .ok (kfind l x 0) w := by
  rw [run_findKey_eq (w := w) hk.wide]
  exact run_findAsking_k hk x hx w es.toList l 0 hs.pairs hs.ok
theorem run_lookup_k [DecidableEq α] (hk : KeyLaw P kt ok enc) (t et : TypeId) (ht : P.underlying t = some (.map kt et)) {w : World} {g : Nat} {l : List (α × Value)} (hg : MapK w g ok enc l) (x : α) (hx : ok x) (z : Value) (hz : (zeroValue et).run P w = .ok z w) (ck : Bool) :
    (lookup t (.map (some g)) (enc x) ck).run P w = .ok (if ck then .tuple #[(kget l x).getD z, .bool (kget l x).isSome] else (kget l x).getD z) w := by
  obtain ⟨es, c, hb, hs⟩ := hg
  have h1 := hk.check es.isEmpty x w hx
  have h2 := run_findKey_k hk x hx w hs
  have h0 : (getObj g).run P w = .ok (.map es c) w := MapKept.run_getObj_map hb
  unfold lookup kget
  cases hm : kfind l x 0 with
  | none => rw [hm] at h2; cases ck <;> simp [run_underlying ht, h0, h1, h2, hz, Result.andThen]
  | some p => rw [hm] at h2; cases ck <;> simp [run_underlying ht, h0, h1, h2, Result.andThen]
theorem Says.entry {es : Array MapEntry} {c : Nat} {l : List (α × Value)} (hs : Says ok enc es c l) {i : Nat} {p : α × Value} (h : l[i]? = some p) : ∃ e, es[i]? = some e ∧ e.key = enc p.1 ∧ e.val = p.2 := by
  have h1 := congrArg (·[i]?) hs.pairs
  simp only [List.getElem?_map, h, Option.map_some] at h1
  rw [Array.getElem?_toList] at h1
  cases he : es[i]? with
  | none => rw [he] at h1; simp at h1
  | some e =>
    rw [he] at h1
    simp only [Option.map_some, Option.some.injEq, Prod.mk.injEq] at h1
    exact ⟨e, rfl, h1.1, h1.2⟩
/-- An entry of the map is given its key anew, or a value. -/
theorem Says.modify {es : Array MapEntry} {c : Nat} {l : List (α × Value)} (hs : Says ok enc es c l) (i : Nat) (f : MapEntry → MapEntry) (q : α × Value) (hf : ∀ e, es[i]? = some e → (f e).key = enc q.1 ∧ (f e).val = q.2) (hb : ∀ e, (f e).born = e.born) (ho : ok q.1) :
    Says ok enc (es.modify i f) c (l.set i q) := by
  have hborn : (es.modify i f).toList.map (·.born) = es.toList.map (·.born) := by
    apply List.ext_getElem?
    intro j
    rw [Array.toList_modify, List.getElem?_map, List.getElem?_map, List.getElem?_modify]
    by_cases hij : i = j
    · subst hij; cases es.toList[i]? <;> simp [hb]
    · cases es.toList[j]? <;> simp [hij]
  refine ⟨?_, by rw [hborn]; exact hs.born, fun e he => ?_, fun p hp => ?_⟩
  · apply List.ext_getElem?
    intro j
    have h1 := congrArg (·[j]?) hs.pairs
    simp only [List.getElem?_map] at h1
    rw [List.getElem?_map, List.getElem?_map, Array.toList_modify, List.getElem?_modify, List.getElem?_set]
    by_cases hij : i = j
    · subst hij
      rw [if_pos rfl]
      cases he : es.toList[i]? with
      | none =>
        rw [he] at h1
        have h9 : l[i]? = none := by cases h : l[i]? with | none => rfl | some _ => rw [h] at h1; cases h1
        have : ¬ i < l.length := by rw [List.getElem?_eq_none_iff] at h9; omega
        rw [if_neg this]; rfl
      | some e =>
        rw [he] at h1
        have : i < l.length := by
          by_cases h : i < l.length
          · exact h
          · rw [List.getElem?_eq_none (by omega)] at h1; cases h1
        rw [if_pos this]
        obtain ⟨h2, h3⟩ := hf e (by rw [← Array.getElem?_toList]; exact he)
        simp [h2, h3]
    · rw [if_neg hij]
      cases he : es.toList[j]? with
      | none => rw [he] at h1; simpa [hij] using h1
      | some e => rw [he] at h1; simpa [hij] using h1
  · have hm : e.born ∈ (es.modify i f).toList.map (·.born) := List.mem_map.2 ⟨e, he, rfl⟩
    rw [hborn] at hm
    obtain ⟨e', he', hb'⟩ := List.mem_map.1 hm
    rw [← hb']; exact hs.old e' he'
  · rcases List.mem_or_eq_of_mem_set hp with h | h
    · exact hs.ok p h
    · rw [h]; exact ho
theorem Says.push {es : Array MapEntry} {c : Nat} {l : List (α × Value)} (hs : Says ok enc es c l) (x : α) (v : Value) (hx : ok x) : Says ok enc (es.push { key := enc x, val := v, born := c }) (c + 1) (l ++ [(x, v)]) := by
  refine ⟨?_, ?_, fun e he => ?_, fun p hp => ?_⟩
  · rw [Array.toList_push, List.map_append, List.map_append, hs.pairs]; rfl
  · rw [Array.toList_push, List.map_append]
    refine List.nodup_append.2 ⟨hs.born, by simp, fun a ha b hb => ?_⟩
    obtain ⟨e, he, rfl⟩ := List.mem_map.1 ha
    simp only [List.map_cons, List.map_nil, List.mem_singleton] at hb
    subst hb
    have := hs.old e he
    omega
  · rw [Array.toList_push, List.mem_append, List.mem_singleton] at he
    rcases he with he | rfl
    · have := hs.old e he; omega
    · exact Nat.lt_succ_self c
  · rw [List.mem_append, List.mem_singleton] at hp
    rcases hp with hp | rfl
    · exact hs.ok p hp
    · exact hx
theorem upd_heap {w : World} {g : Nat} (ob : Obj) : Upd g w { w with heap := w.heap.setIfInBounds g ob } := ⟨rfl, rfl, rfl, by simp, fun k hk => by simp [Ne.symm hk]⟩
theorem run_mapUpdate_k [DecidableEq α] (hk : KeyLaw P kt ok enc) (t et : TypeId) (ht : P.underlying t = some (.map kt et)) {w : World} {g : Nat} {l : List (α × Value)} (hg : MapK w g ok enc l) (x : α) (hx : ok x) (v : Value) :
    ∃ w', (mapUpdate t (.map (some g)) (enc x) v).run P w = .ok () w' ∧ MapK w' g ok enc (kput l x v) ∧ Upd g w w' := by
  obtain ⟨es, c, hb, hs⟩ := hg
  have h1 := hk.check false x w hx
  have h2 := run_findKey_k hk x hx w hs
  have h0 : (getObj g).run P w = .ok (.map es c) w := MapKept.run_getObj_map hb
  have hst : ∀ ob, (setObj g ob).run P w = .ok () { w with heap := w.heap.setIfInBounds g ob } := fun ob => MapKept.run_setObj_map ob hb
  unfold mapUpdate kput
  cases hm : kfind l x 0 with
  | none =>
    rw [hm] at h2
    simp only [Sem.run_bind, run_underlying ht, Result.andThen_ok, h0, h1, h2, hst]
    exact ⟨_, rfl, ⟨_, _, (heap_set hb).1, hs.push x v hx⟩, upd_heap _⟩
  | some p =>
    obtain ⟨i, v0⟩ := p
    have h3 := (kfind_lt l 0 i v0 hm).2
    rw [Nat.sub_zero] at h3
    obtain ⟨e, he, hke, _⟩ := hs.entry h3
    have h5 : ((es[i]?).map (·.key)).getD (enc x) = enc x := by rw [he]; exact hke
    rw [hm] at h2
    simp only [Sem.run_bind, run_underlying ht, Result.andThen_ok, h0, h1, h2, h5, keyThatStays, hk.bits x hx, if_true, Sem.run_pure, hst]
    exact ⟨_, rfl, ⟨_, _, (heap_set hb).1, hs.modify i _ (x, v) (fun _ _ => ⟨rfl, rfl⟩) (fun _ => rfl) hx⟩, upd_heap _⟩
theorem run_mapEntry_k [DecidableEq α] (hk : KeyLaw P kt ok enc) (t et : TypeId) (ht : P.underlying t = some (.map kt et)) {w : World} {g : Nat} {l : List (α × Value)} (hg : MapK w g ok enc l) (x : α) (hx : ok x) (z : Value) (hz : (zeroValue et).run P w = .ok z w) :
    ∃ w' b, (mapEntry t (.map (some g)) (enc x)).run P w = .ok (.tuple #[(kget l x).getD z, .int .i64 b]) w' ∧ MapS w' g ok enc (kask l x z) b (kat l x) ∧ Upd g w w' := by
  obtain ⟨es, c, hb, hs⟩ := hg
  have h1 := hk.check false x w hx
  have h2 := run_findKey_k hk x hx w hs
  have h0 : (getObj g).run P w = .ok (.map es c) w := MapKept.run_getObj_map hb
  have hst : ∀ ob, (setObj g ob).run P w = .ok () { w with heap := w.heap.setIfInBounds g ob } := fun ob => MapKept.run_setObj_map ob hb
  have hlen : es.size = l.length := by have := congrArg List.length hs.pairs; simpa using this
  unfold mapEntry kask kat kget
  cases hm : kfind l x 0 with
  | none =>
    rw [hm] at h2
    simp only [Sem.run_bind, run_underlying ht, Result.andThen_ok, h0, h1, h2, hz, hst, Sem.run_pure]
    refine ⟨_, _, rfl, ⟨_, _, (heap_set hb).1, hs.push x z hx, { key := enc x, val := z, born := c }, ?_, rfl⟩, upd_heap _⟩
    rw [← hlen, Array.getElem?_push_size]
  | some p =>
    obtain ⟨i, v0⟩ := p
    have h3 := (kfind_lt l 0 i v0 hm).2
    rw [Nat.sub_zero] at h3
    obtain ⟨e, he, hke, hve⟩ := hs.entry h3
    have h5 : ((es[i]?).map (·.key)).getD (enc x) = enc x := by rw [he]; exact hke
    rw [hm] at h2
    simp only [Sem.run_bind, run_underlying ht, Result.andThen_ok, h0, h1, h2, h5, keyThatStays, hk.bits x hx, if_true, Sem.run_pure, hst]
    refine ⟨_, _, rfl, ⟨_, _, (heap_set hb).1, ?_, { e with key := enc x }, ?_, ?_⟩, upd_heap _⟩
    · have h := hs.modify i (fun e => { e with key := enc x }) (x, v0) (fun e' he' => by rw [he] at he'; injection he' with he'; exact ⟨rfl, by rw [← he']; exact hve⟩) (fun _ => rfl) hx
      have e2 : l.set i (x, v0) = l := by
        rw [List.getElem?_eq_some_iff] at h3
        obtain ⟨hlt, h3⟩ := h3
        rw [← h3]; exact List.set_getElem_self hlt
      rw [e2] at h; exact h
    · rw [Array.getElem?_modify, if_pos rfl, he]; rfl
    · show (e.born : Int) = _
      rw [he]; rfl
theorem run_entryStore_k [DecidableEq α] (t : TypeId) {w : World} {g : Nat} {l : List (α × Value)} {b : Int} {i : Nat} (hg : MapS w g ok enc l b i) (x : α) (v0 : Value) (hi : l[i]? = some (x, v0)) (v : Value) :
    ∃ w', (entryStore t (.map (some g)) (.int .i64 b) v).run P w = .ok () w' ∧ MapK w' g ok enc (l.set i (x, v)) ∧ Upd g w w' := by
  obtain ⟨es, c, hb, hs, e, he, hbe⟩ := hg
  have h0 : (getObj g).run P w = .ok (.map es c) w := MapKept.run_getObj_map hb
  have hst : ∀ ob, (setObj g ob).run P w = .ok () { w with heap := w.heap.setIfInBounds g ob } := fun ob => MapKept.run_setObj_map ob hb
  obtain ⟨e', he', hke, hve⟩ := hs.entry hi
  rw [he] at he'
  injection he' with he'
  subst he'
  have hfind : es.findIdx? (fun e => (e.born : Int) == b) = some i := by
    obtain ⟨hlt, hee⟩ := Array.getElem?_eq_some_iff.1 he
    rw [Array.findIdx?_eq_some_iff_getElem]
    refine ⟨hlt, by rw [hee]; simpa using hbe, fun j hji => ?_⟩
    have hjl : j < es.size := by omega
    intro hj
    have hj' : (es[j].born : Int) = b := by simpa using hj
    have hn := List.pairwise_iff_getElem.1 hs.born j i (by simpa using hjl) (by simpa using hlt) hji
    apply hn
    simp only [List.getElem_map, Array.getElem_toList, hee]
    omega
  unfold entryStore
  simp only [Sem.run_bind, Result.andThen_ok, h0, asInt, asIntOf, Sem.run_pure]
  rw [hfind]
  simp only [hst]
  exact ⟨_, rfl, ⟨_, _, (heap_set hb).1, hs.modify i _ (x, v) (fun e' he' => by rw [he] at he'; injection he' with he'; exact ⟨by rw [← he']; exact hke, rfl⟩) (fun _ => rfl) (show ok x from hs.ok (x, v0) (List.mem_of_getElem? hi))⟩, upd_heap _⟩
end
end Go

/- Arrays of bytes as keys of a map. Plain facts. No condition. -/
namespace Go
open Go.RowKit
def encRaw (l : List UInt8) : Value := .agg (l.map u8v).toArray
theorem bytesKey {P : Program} (kt e : TypeId) (n : Nat) (ht : P.underlying kt = some (.array n e)) (he : P.underlying e = some (.int .u8)) (hi : (P.info? e).map (·.size) = some 1) : KeyLaw P kt (fun l : List UInt8 => l.length = n) encRaw := by
  have hsz : ∀ w, (sizeOf e).run P w = .ok 1 w := fun w => by
    obtain ⟨i, hi, hs⟩ := Option.map_eq_some_iff.1 hi
    simp [sizeOf, typeInfo, hi, hs]
  refine ⟨by rw [ht], ?_, ?_, ?_⟩
  · intro em x w hx
    unfold encRaw
    rw [show (10000 : Nat) = 9999 + 1 from rfl, Instr.checkKey]
    simp only [Sem.run_bind, run_underlying ht, Result.andThen_ok]
    simp only [Std.Legacy.Range.forIn_eq_forIn_range', Std.Legacy.Range.size, Nat.sub_zero, Nat.add_one_sub_one, Nat.div_one]
    have hp : P.plainKey e = true := by unfold Program.plainKey; rw [he]
    have each : ∀ j ∈ List.range' 0 n, ∃ v, (part e (x.map u8v).toArray j).run P w = .ok (.int .u8 v) w := fun j hj => by
      have hjn : j < x.length := by rw [List.mem_range'_1] at hj; omega
      exact ⟨iu8 x[j], run_part_plain w hp (by rw [List.getElem?_toArray, List.getElem?_map, List.getElem?_eq_getElem hjn]; rfl)⟩
    generalize List.range' 0 n = is at each
    induction is with
    | nil => simp
    | cons j is ih =>
      obtain ⟨v, hv⟩ := each j (.head _)
      have hc : (Instr.checkKey em 9999 e (.int .u8 v)).run P w = .ok () w := by
        rw [show (9999 : Nat) = 9998 + 1 from rfl, Instr.checkKey]
        simp only [Sem.run_bind, run_underlying he, Result.andThen_ok, Sem.run_pure]
      simp only [List.forIn_cons, Sem.run_bind, hsz, Result.andThen_ok, Nat.mul_one, hv, hc, Sem.run_pure]
      exact ih (fun y hy => each y (.tail _ hy))
  · intro x y w hx hy
    have h1 := run_eql_bytes (P := P) w kt e n ht he hsz x y hx hy
    rw [u8v_cell] at h1
    unfold encRaw
    simp only [binOp, Sem.run_bind] at h1
    refine ⟨x == y, ?_, by simp⟩
    generalize (Op.equal kt (.agg (x.map u8v).toArray) (.agg (y.map u8v).toArray)).run P w = r at h1 ⊢
    cases r with
    | ok v w' =>
      simp only [Result.andThen_ok, Sem.run_pure, Result.ok.injEq, Value.bool.injEq] at h1
      rw [h1.1, h1.2]
    | halt v w' => simp [Result.andThen] at h1
  · intro x hx
    unfold encRaw
    rw [show (10000 : Nat) = 9999 + 1 from rfl, Instr.sameBits]
    have h : ∀ l : List UInt8, ((l.map u8v).zip (l.map u8v)).all (fun (x, y) => Instr.sameBits 9999 x y) = true := fun l => by
      induction l with
      | nil => rfl
      | cons a l ih => simp only [List.map_cons, List.zip_cons_cons, List.all_cons, ih, Bool.and_true]; simp [u8v, Instr.sameBits]
    simpa using h x
end Go

/- Maps keyed by arrays or structs: the walk's arms. Plain facts over any program. No condition. -/
namespace Go
open Go.RowKit Go.Instr
section
variable {α : Type} {P : Program} {kt : TypeId} {ok : α → Prop} {enc : α → Value}
variable {w : World} {ops : Array Oper} {rest : List Oper} {o : Oper} {a : Act} {Q : Exit → Act → World → Prop}
theorem wpList_lookup_k [DecidableEq α] (hgd : o.guard = none) (hk : KeyLaw P kt ok enc) (t et : TypeId) (m k : Operand) (ck : Bool) (ho : o.op = .lookup t m k ck) (ht : P.underlying t = some (.map kt et)) {g : Nat} {l : List (α × Value)} (hg : MapK w g ok enc l)
    (x : α) (hx : ok x) (z : Value) (hz : (zeroValue et).run P w = .ok z w) (hm : a.eval m = .map (some g)) (he : a.eval k = enc x)
    (h : wpList P ops Q rest (a.put o.dst (if ck then .tuple #[(kget l x).getD z, .bool (kget l x).isSome] else (kget l x).getD z)) w) : wpList P ops Q (o :: rest) a w :=
  wpList_run _ hgd (by unfold execOp; simp only [ho, hm, he, run_lookup_k hk t et ht hg x hx z hz ck, Sem.run_bind, Result.andThen_ok, Sem.run_pure]) h
theorem wpList_mapUpdate_k [DecidableEq α] (hgd : o.guard = none) (hk : KeyLaw P kt ok enc) (t et : TypeId) (m k y : Operand) (ho : o.op = .mapUpdate t m k y) (ht : P.underlying t = some (.map kt et)) {g : Nat} {l : List (α × Value)} (hg : MapK w g ok enc l)
    (x : α) (hx : ok x) (v : Value) (hm : a.eval m = .map (some g)) (he : a.eval k = enc x) (hy : a.eval y = v)
    (h : ∀ w', MapK w' g ok enc (kput l x v) → Upd g w w' → wpList P ops Q rest (a.put o.dst undef) w') : wpList P ops Q (o :: rest) a w := by
  obtain ⟨w', h1, h2, h3⟩ := run_mapUpdate_k hk t et ht hg x hx v
  refine wpList_plain hgd fun _ hK => ?_
  unfold Oper.wp execOp
  simp only [ho, hm, he, hy, h1, Sem.run_bind, Sem.run_pure, Result.andThen_ok]
  exact hK _ _ (h w' h2 h3)
theorem wpList_mapEntry_k [DecidableEq α] (hgd : o.guard = none) (hk : KeyLaw P kt ok enc) (t et : TypeId) (m k : Operand) (ho : o.op = .mapEntry t m k) (ht : P.underlying t = some (.map kt et)) {g : Nat} {l : List (α × Value)} (hg : MapK w g ok enc l)
    (x : α) (hx : ok x) (z : Value) (hz : (zeroValue et).run P w = .ok z w) (hm : a.eval m = .map (some g)) (he : a.eval k = enc x)
    (h : ∀ w' b, MapS w' g ok enc (kask l x z) b (kat l x) → Upd g w w' → wpList P ops Q rest (a.put o.dst (.tuple #[(kget l x).getD z, .int .i64 b])) w') : wpList P ops Q (o :: rest) a w := by
  obtain ⟨w', b, h1, h2, h3⟩ := run_mapEntry_k hk t et ht hg x hx z hz
  refine wpList_plain hgd fun _ hK => ?_
  unfold Oper.wp execOp
  simp only [ho, hm, he, h1, Sem.run_bind, Sem.run_pure, Result.andThen_ok]
  exact hK _ _ (h w' b h2 h3)
theorem wpList_entryStore_k [DecidableEq α] (hgd : o.guard = none) (t : TypeId) (m s y : Operand) (ho : o.op = .entryStore t m s y) {g : Nat} {l : List (α × Value)} {b : Int} {x : α} {z : Value} (hg : MapS w g ok enc (kask l x z) b (kat l x))
    (v : Value) (hm : a.eval m = .map (some g)) (hs : a.eval s = .int .i64 b) (hy : a.eval y = v)
    (h : ∀ w', MapK w' g ok enc (kput l x v) → Upd g w w' → wpList P ops Q rest (a.put o.dst undef) w') : wpList P ops Q (o :: rest) a w := by
  obtain ⟨v0, hv0⟩ := kask_at l x z
  obtain ⟨w', h1, h2, h3⟩ := run_entryStore_k (P := P) t hg x v0 hv0 v
  rw [kask_set] at h2
  refine wpList_plain hgd fun _ hK => ?_
  unfold Oper.wp execOp
  simp only [ho, hm, hs, hy, h1, Sem.run_bind, Sem.run_pure, Result.andThen_ok]
  exact hK _ _ (h w' h2 h3)
theorem MapK.keptW {B : Nat} {W W' : World} {g : Nat} {l : List (α × Value)} (h : MapK W g ok enc l) (k : Kept B W W') (hg : g < B) : MapK W' g ok enc l := by obtain ⟨es, c, h1, h2⟩ := h; exact ⟨es, c, h1.keptW k hg, h2⟩
end
end Go

/- What a call hands back whose first two results lie in blocks; the marks of loops over functions. Plain facts over any program. No condition. -/
namespace Go
open Go.RowKit
theorem results_rows_tmp {P : Program} {fn : Func} {p p2 q : Tmp} {ty ty2 : TypeId} (h : fn.results = #[.cell p ty, .cell p2 ty2, .tmp q]) (tmps : Array Value) (w : World) (g g2 : Nat) (t t2 : TypeId) (cs cs2 : Array Value) (d d2 : TypeDesc)
    (hp : tmps.getD p undef = .pointer (some ⟨g, 0, none⟩)) (hg : Blk w g t cs) (hp2 : tmps.getD p2 undef = .pointer (some ⟨g2, 0, none⟩)) (hg2 : Blk w g2 t2 cs2)
    (hu : P.underlying ty = some d) (hd : (match d with | .struct _ | .array _ _ => true | _ => false) = true) (hi : (P.info? ty).map (·.size) = some cs.size)
    (hu2 : P.underlying ty2 = some d2) (hd2 : (match d2 with | .struct _ | .array _ _ => true | _ => false) = true) (hi2 : (P.info? ty2).map (·.size) = some cs2.size) :
    (results fn tmps).run P w = .ok (.tuple #[.agg cs, .agg cs2, tmps.getD q undef]) w := by
  have hp' : tmps[p]?.getD undef = .pointer (some ⟨g, 0, none⟩) := by simpa using hp
  have hp2' : tmps[p2]?.getD undef = .pointer (some ⟨g2, 0, none⟩) := by simpa using hp2
  simp [results, h, hp', hp2', asAddr, run_loadVar_row w g t ty cs (0, 0) d hg hu hd hi, run_loadVar_row w g2 t2 ty2 cs2 (0, 0) d2 hg2 hu2 hd2 hi2]
/-- What a call hands back that lies in a block. -/
theorem results_row1 {P : Program} {fn : Func} {p : Tmp} {ty : TypeId} (h : fn.results = #[.cell p ty]) (tmps : Array Value) (w : World) (g : Nat) (t : TypeId) (cs : Array Value) (d : TypeDesc)
    (hp : tmps.getD p undef = .pointer (some ⟨g, 0, none⟩)) (hg : Blk w g t cs)
    (hu : P.underlying ty = some d) (hd : (match d with | .struct _ | .array _ _ => true | _ => false) = true) (hi : (P.info? ty).map (·.size) = some cs.size) :
    (results fn tmps).run P w = .ok (.agg cs) w := by
  have hp' : tmps[p]?.getD undef = .pointer (some ⟨g, 0, none⟩) := by simpa using hp
  simp [results, h, hp', asAddr, run_loadVar_row w g t ty cs (0, 0) d hg hu hd hi]
/-- What a call hands back that lies in one cell. -/
theorem results_cell {P : Program} {fn : Func} {p : Tmp} {ty : TypeId} (h : fn.results = #[.cell p ty]) (tmps : Array Value) (w : World) (g : Nat) (v : Value) (d : TypeDesc)
    (hp : tmps.getD p undef = .pointer (some ⟨g, 0, none⟩)) (hc : w.cell? ⟨g, 0, none⟩ = some v) (hu : P.underlying ty = some d) (hd : d.isRow = false) : (results fn tmps).run P w = .ok v w := by
  have hp' : tmps[p]?.getD undef = .pointer (some ⟨g, 0, none⟩) := by simpa using hp
  have hl : (loadVar ty ⟨g, 0, none⟩).run P w = .ok v w := by
    simp only [loadVar, Sem.run_bind, run_isAgg_cell hu hd w, Result.andThen_ok, Bool.false_eq_true, if_false]
    simp [hc]
  simp [results, h, hp', asAddr, hl]
/-- A loop's mark is shut: what a contract speaks of lies as it lay. -/
theorem mark_kept {B : Nat} {W : World} {D : Nat} (hB : B ≤ D) (h : W.heap[D]? = some (.deferred (some []))) : Kept B W (W.putObj D (.deferred none)) := Kept.put hB h rfl
theorem mark_other {W : World} {D D' : Nat} (h : W.heap[D']? = some (.deferred (some []))) (hne : D' ≠ D) : (W.putObj D (.deferred none)).heap[D']? = some (.deferred (some [])) := (World.putObj_heap_other hne).trans h
end Go

/- What is open on a disk: the program's open. Conditions: the disk is not out, and has eight sectors. -/
namespace Go.Proofs.Ytmhfehhpfkjloaa
open Go.RowKit
attribute [local go_sem] Oper.semAt_some
def OpnPost (w : World) (d : Dsk) (e : Ending) (w' : World) : Prop :=
  ∃ (fs : HdF) (fe : Bool) (B : Option Addr) (dd : Nat) (hs : List (Int × Int)), e = .returned (.tuple #[.agg (spc fs fe (.slice B hs.length dd)), .agg ((Sp.best d.cpys).2.map u8v).toArray, .bool (decide (0 < (Sp.best d.cpys).1.1 0))]) ∧
    Sp.same (fs, fe, hs) (Sp.best d.cpys).1 ∧ Heads w' B hs ∧ hs.length ≤ dd ∧ (∀ ad, B = some ad → w.heap.size ≤ ad.block) ∧ Below w.heap.size w w'
/-- The votes of copies: how many there are of each. -/
def Votes (W : World) (g : Nat) (l : List (List UInt8)) : Prop := ∃ kv, MapK W g (fun x : List UInt8 => x.length = 512) encRaw kv ∧ ∀ x, (kget kv x).getD (.int .i64 0) = .int .i64 (l.count x : Nat)
theorem rawKey : KeyLaw Try.prog 94 (fun l : List UInt8 => l.length = 512) encRaw := bytesKey _ _ 512 Try.underlying94 Try.underlying5 size1
theorem zeroInt (w : World) : (zeroValue 3).run Try.prog w = .ok (.int .i64 0) w := (zero_of_info (show (Try.prog.info? 3).map (fun i => (i.zero, i.size)) = some (some (.int .i64 0), 1) by kernel_rfl)).1 w
theorem Votes.nil {W : World} {g : Nat} (h : MapB W g #[] 0) : Votes W g [] := ⟨[], ⟨#[], 0, h, rfl, by simp, by simp, by simp⟩, fun x => rfl⟩
theorem Votes.keptW {B : Nat} {W W' : World} {g : Nat} {l : List (List UInt8)} (h : Votes W g l) (k : Kept B W W') (hg : g < B) : Votes W' g l := by obtain ⟨kv, h1, h2⟩ := h; exact ⟨kv, h1.keptW k hg, h2⟩
theorem Votes.near {X : List Nat} {W W' : World} {g : Nat} {l : List (List UInt8)} (h : Votes W g l) (k : Near X W W') (hg : g ∉ X) : Votes W' g l := by obtain ⟨kv, h1, h2⟩ := h; exact ⟨kv, h1.near k hg, h2⟩
theorem Votes.more {W' : World} {g : Nat} {l : List (List UInt8)} {kv : List (List UInt8 × Value)} {b : List UInt8} (h : MapK W' g (fun x : List UInt8 => x.length = 512) encRaw (kput kv b (.int .i64 ((l.count b : Nat) + 1 : Int)))) (h2 : ∀ x, (kget kv x).getD (.int .i64 0) = .int .i64 (l.count x : Nat)) : Votes W' g (l ++ [b]) := by
  refine ⟨_, h, fun x => ?_⟩
  rw [kget_put, List.count_append]
  by_cases hx : x = b
  · rw [if_pos hx, hx]; simp
  · rw [if_neg hx, h2]
    have : List.count x [b] = 0 := by rw [List.count_eq_zero]; simpa using hx
    rw [this]; rfl
/-- Behind k rounds of the first loop; S: how many blocks there were. -/
def Lp1 (S : Nat) (p : Pl) (d : Dsk) (w : World) (k : Nat) (W : World) : Prop :=
  Near [] w W ∧ Blk W S 26 spz ∧ Blk W (S + 1) 94 raw0 ∧ Blk W (S + 3) 143 #[.map (some (S + 2))] ∧ Blk W (S + 4) 27 #[.pointer (some ⟨p.gd, 0, none⟩)] ∧ Votes W (S + 2) (d.cpys.take k)
theorem Lp1.keptW {S : Nat} {p : Pl} {d : Dsk} {w W W' : World} {k : Nat} {B : Nat} (h : Lp1 S p d w k W) (kw : Kept B W W') (hB : w.heap.size + 5 ≤ B) (hS : S = w.heap.size) : Lp1 S p d w k W' :=
  ⟨h.1.keptW kw (by omega), h.2.1.keptW kw, h.2.2.1.keptW kw, h.2.2.2.1.keptW kw, h.2.2.2.2.1.keptW kw, h.2.2.2.2.2.keptW kw (by omega)⟩
theorem Lp1.near {S : Nat} {p : Pl} {d : Dsk} {w W W' : World} {k : Nat} {Y : List Nat} (h : Lp1 S p d w k W) (kn : Near Y W W') (hY : ∀ y ∈ Y, S + 5 ≤ y) (hS : S = w.heap.size) : Lp1 S p d w k W' := by
  have hn : ∀ j, j < S + 5 → j ∉ Y := fun j hj hx => by have := hY j hx; omega
  exact ⟨h.1.high kn (fun y hy => by have := hY y hy; omega), h.2.1.near kn (hn _ (by omega)), h.2.2.1.near kn (hn _ (by omega)), h.2.2.2.1.near kn (hn _ (by omega)), h.2.2.2.2.1.near kn (hn _ (by omega)), h.2.2.2.2.2.near kn (hn _ (by omega))⟩
/-- The best copy so far. -/
def Sp.bestK (cs : List (List UInt8)) (k : Nat) : SpT × List UInt8 := (cs.take k).foldl (Sp.step cs) (Sp.none_, zero512)
theorem Sp.bestK_next (d : Dsk) (k : Nat) (hk : k < 4) : Sp.bestK d.cpys (k + 1) = Sp.step d.cpys (Sp.bestK d.cpys k) (d.cpy k) := by
  have : k = 0 ∨ k = 1 ∨ k = 2 ∨ k = 3 := by omega
  rcases this with rfl | rfl | rfl | rfl <;> rfl
theorem Sp.bestK_all (d : Dsk) : Sp.bestK d.cpys 4 = Sp.best d.cpys := rfl
def BestR (S2 : Nat) (W : World) (b : SpT × List UInt8) : Prop :=
  ∃ (f : HdF) (fe : Bool) (B : Option Addr) (dd : Nat) (hs : List (Int × Int)), Blk W S2 26 (spc f fe (.slice B hs.length dd)) ∧ Blk W (S2 + 1) 94 (b.2.map u8v).toArray ∧
    Sp.same (f, fe, hs) b.1 ∧ Heads W B hs ∧ hs.length ≤ dd ∧ (∀ ad, B = some ad → S2 + 3 ≤ ad.block) ∧ b.2.length = 512
/-- Behind k rounds of the second loop, but for the best one. -/
def Lp2 (S S2 D : Nat) (p : Pl) (d : Dsk) (w : World) (W : World) : Prop :=
  Near [] w W ∧ Blk W S 26 spz ∧ Blk W (S + 1) 94 raw0 ∧ Blk W (S + 3) 143 #[.map (some (S + 2))] ∧ Blk W (S2 + 2) 27 #[.pointer (some ⟨p.gd, 0, none⟩)] ∧ Votes W (S + 2) d.cpys ∧ W.heap[D]? = some (.deferred (some []))
theorem Heads.keptW {B : Nat} {W W' : World} {A : Option Addr} {hs : List (Int × Int)} (h : Heads W A hs) (k : Kept B W W') : Heads W' A hs := fun hp => by
  obtain ⟨b, off, e, hc⟩ := h hp
  exact ⟨b, off, e, fun i hi => ⟨k.cell (hc i hi).1, k.cell (hc i hi).2⟩⟩
theorem BestR.keptW {B S2 : Nat} {W W' : World} {b : SpT × List UInt8} (h : BestR S2 W b) (k : Kept B W W') : BestR S2 W' b := by
  obtain ⟨f, fe, A, dd, hs, h1, h2, h3, h4, h5⟩ := h
  exact ⟨f, fe, A, dd, hs, h1.keptW k, h2.keptW k, h3, h4.keptW k, h5⟩
theorem Lp2.keptW {B S S2 D : Nat} {p : Pl} {d : Dsk} {w W W' : World} (h : Lp2 S S2 D p d w W) (kw : Kept B W W') (hS : S = w.heap.size) (hD : S + 5 ≤ D) (hB : D < B) : Lp2 S S2 D p d w W' :=
  ⟨h.1.keptW kw (by omega), h.2.1.keptW kw, h.2.2.1.keptW kw, h.2.2.2.1.keptW kw, h.2.2.2.2.1.keptW kw, h.2.2.2.2.2.1.keptW kw (by omega), (kw.low D hB (Array.getElem?_eq_some_iff.1 h.2.2.2.2.2.2).1).trans h.2.2.2.2.2.2⟩
theorem Lp2.near {S S2 D : Nat} {p : Pl} {d : Dsk} {w W W' : World} {Y : List Nat} (h : Lp2 S S2 D p d w W) (kn : Near Y W W') (hY : ∀ y ∈ Y, S2 ≤ y ∧ y ≠ S2 + 2) (hS : S = w.heap.size) (hD : S + 5 ≤ D) (hB : D < S2) : Lp2 S S2 D p d w W' := by
  have hn : ∀ j, j < S2 → j ∉ Y := fun j hj hx => by have := hY j hx; omega
  exact ⟨h.1.high kn (fun y hy => by have := hY y hy; omega), h.2.1.near kn (hn _ (by omega)), h.2.2.1.near kn (hn _ (by omega)), h.2.2.2.1.near kn (hn _ (by omega)), h.2.2.2.2.1.near kn (fun hx => (hY _ hx).2 rfl), h.2.2.2.2.2.1.near kn (hn _ (by omega)),
    (kn.block D (Array.getElem?_eq_some_iff.1 h.2.2.2.2.2.2).1 (hn _ hB)).trans h.2.2.2.2.2.2⟩
theorem BestR.near {S2 : Nat} {W W' : World} {b : SpT × List UInt8} (h : BestR S2 W b) (kn : Near [] W W') : BestR S2 W' b := by
  obtain ⟨f, fe, A, dd, hs, h1, h2, h3, h4, h5⟩ := h
  exact ⟨f, fe, A, dd, hs, h1.near kn (by simp), h2.near kn (by simp), h3, h4.near kn (by simp), h5⟩
set_option maxRecDepth 100000 in
set_option maxHeartbeats 4000000 in
theorem open_any (p : Pl) (gf : Option Nat) (d : Dsk) (f : Option Fus) (w : World) (hd : DskR w p gf d) (hf : FusR w gf f) (hok : d.Ok) (ho : d.isOut f = false) (hN : 8 ≤ d.N) :
    Calls Try.prog 55 #[.pointer (some ⟨p.gd, 0, none⟩)] w (OpnPost w d) := by
  have hz := zeroSuper
  have hzr := zeroRaw
  have HD := Lib.hid (And.intro hd (And.intro hf (And.intro hok (And.intro ho hN))))
  clear hd hf hok ho hN
  refine callsIn_wide (n := 3).1 ?_
  refine callsIn_of_wp_marks Try.func55 rfl trivial ?_ rfl
  simp only [Try.ntmps55, List.size_toArray, List.length_cons, List.length_nil, Nat.reduceAdd, Nat.reduceSub, Array.replicate_succ, Array.replicate_zero, List.push_toArray, List.append_toArray, List.nil_append, List.cons_append]
  refine wpIn_wide.2 ?_
  have hB1 := ((Below.refl w.heap.size w).alloc (Nat.le_refl _) (.cells spz 26)).alloc (by simp) (.cells raw0 94)
  have hs1 : Blk ((w.alloc (.cells spz 26)).alloc (.cells raw0 94)) w.heap.size 26 spz := (Blk.new w _ _).alloc _
  have hr1 : Blk ((w.alloc (.cells spz 26)).alloc (.cells raw0 94)) (w.heap.size + 1) 94 raw0 := Blk.new' _ _ _ (by simp)
  have hz1 : ((w.alloc (.cells spz 26)).alloc (.cells raw0 94)).heap.size = w.heap.size + 2 := by simp
  generalize hw1 : (w.alloc (.cells spz 26)).alloc (.cells raw0 94) = w1 at hB1 hs1 hr1 hz1
  have HA := Lib.hid (And.intro hB1 (And.intro hs1 (And.intro hr1 hz1)))
  clear hB1 hs1 hr1 hz1
  go_wp2_with (first
    | ((with_reducible show wpList _ _ _ ((⟨some 14, _, _, _, _, _⟩ : Oper) :: _) _ _); (try rw [hw1]); refine wpList_make_map (o := ⟨some 14, _, _, _, _, _⟩) _ (by rfl) _ (by rfl) ?_; intro w2 hm2 hb2 hs2; have HM := Lib.hid (And.intro hm2 (And.intro hb2 hs2)); clear hm2 hb2 hs2)
    | fail)
  have e1 : w1.heap.size = w.heap.size + 2 := HA.out.2.2.2
  have e2 : w2.heap.size = w.heap.size + 3 := HM.out.2.2.trans (by rw [e1])
  rw [e1, e2]
  refine (copies_any p.gd _).mono ?_
  rintro e w' ⟨rfl, rfl⟩
  have hL : Lp1 w.heap.size p d w 0 ((w2.alloc (.cells #[.map (some (w.heap.size + 2))] 143)).alloc (.cells #[.pointer (some ⟨p.gd, 0, none⟩)] 27)) := by
    have hb : Below w.heap.size w w2 := HA.out.1.trans (HM.out.2.1.mono HA.out.1.size)
    refine ⟨Near.below ((hb.alloc (by omega) _).alloc (by simp; omega) _), ?_, ?_, ?_, ?_, ?_⟩
    · exact ((HA.out.2.1.below HM.out.2.1 HA.out.2.1.lt).alloc _).alloc _
    · exact ((HA.out.2.2.1.below HM.out.2.1 HA.out.2.2.1.lt).alloc _).alloc _
    · exact (Blk.new' w2 _ _ (by omega)).alloc _
    · exact Blk.new' _ _ _ (by simp; omega)
    · refine Votes.nil ?_
      have h := HM.out.1
      rw [e1] at h
      exact (h.alloc _).alloc _
  have hz4 : ((w2.alloc (.cells #[.map (some (w.heap.size + 2))] 143)).alloc (.cells #[.pointer (some ⟨p.gd, 0, none⟩)] 27)).heap.size = w.heap.size + 5 := by simp; omega
  have eb : (w2.alloc (.cells #[.map (some (w.heap.size + 2))] 143)).heap.size = w.heap.size + 4 := by simp; omega
  rw [eb]
  generalize (w2.alloc (.cells #[.map (some (w.heap.size + 2))] 143)).alloc (.cells #[.pointer (some ⟨p.gd, 0, none⟩)] 27) = w4 at hL hz4 ⊢
  have H4 := Lib.hid (And.intro hL hz4)
  clear hL hz4 HA HM hw1 e1 e2 eb
  clear w1 w2
  go_wp2_with fail
  refine wpIn_wide (n := 3).1 ?_
  refine wpIn_rangeRow rfl (by omega) (gf := 104) (lb := #[.pointer (some ⟨w.heap.size + 4, 0, none⟩)]) rfl trivial (enters_of Try.func104 (by kernel_rfl) rfl)
    (encC d.cpy) (fun _ => rfl) 4 (fun k W => Lp1 w.heap.size p d w k W) (fun _ _ => False) (fun k W W' h kw => h.keptW kw (by rw [H4.out.2]; exact Nat.le_refl _) rfl) (fun _ _ _ h _ => h) H4.out.1 ?row ?round ?done ?stop
  case stop => exact fun _ _ _ _ h => h.elim
  case row =>
    refine copies_row 2 (by omega) p gf (w.heap.size + 4) d.cpy _ fun k W h => ⟨h.2.2.2.2.1, fun _ => ⟨d, f, HD.out.1.near h.1 ⟨by simp, by simp, by simp⟩, HD.out.2.1.near h.1 (fun _ _ => by simp), HD.out.2.2.1, HD.out.2.2.2.1, HD.out.2.2.2.2, rfl⟩⟩
  case round =>
    intro l k W hl1 hl2 hI hk
    have hcl := cpy_len HD.out.2.2.1 HD.out.2.2.2.2 hk
    have HI := Lib.hid (And.intro hI hcl)
    clear hI hcl
    unfold encC
    gi_wp2_with (first
      | ((with_reducible show wpListIn _ _ _ _ _ ((⟨none, _, _, _, _, _⟩ : Oper) :: _) _ _); refine wpListIn_of (by rfl) ?_; refine wpList_store_blk (o := ⟨none, _, _, _, _, _⟩) ((Blk.new W 94 raw0)) (by rfl) _ _ _ (by rfl) (by rfl) (((d.cpy k).map u8v).toArray) (by rfl) (sizeRaw) (arr_size _ _) (by rw [List.size_toArray, List.length_map]; exact HI.out.2) (u8_all _) ?_; intro W5 h5 hu5; refine ⟨rfl, ?_⟩)
      | fail)
    refine ⟨((Below.refl _ _).alloc (Nat.le_refl _) _).upd hu5 (Nat.le_refl _), fun W6 hW6 => ?_⟩
    have hI5 := HI.out.1.near (Near.below (X := []) (((Below.refl _ _).alloc (Nat.le_refl _) _).upd hu5 (Nat.le_refl _))) (by simp) rfl
    have hI6 := hI5.keptW hW6 (by rw [H4.out.2]; exact Nat.le_refl _) rfl
    have h6 : Blk W6 W.heap.size 94 ((d.cpy k).map u8v).toArray := h5.keptW hW6
    have hgt : w.heap.size + 5 ≤ W.heap.size := by have := H4.out.2; omega
    have H6 := Lib.hid (And.intro hI6 (And.intro h6 (And.intro HI.out.2 hgt)))
    clear hI5 hI6 h6 hgt h5 hu5 hW6 HI
    generalize W.heap.size = gx at H6 ⊢
    simp only [Act.put]
    gi_wp2_with fail
    obtain ⟨kv, hkv, hcn⟩ := H6.out.1.2.2.2.2.2
    have HV := Lib.hid (And.intro hkv hcn)
    clear hkv hcn
    have hC0 := (Near.refl [w.heap.size + 2] W6).drew
    refine wpIn_region_tree (Near [w.heap.size + 2] W6) [] (PlanT.takes [0, 1] (.opt 2 (PlanT.takes [3] (.opt 4 (PlanT.takes [5] (.opt 6 .done .no)) .no)) (.opt 4 (PlanT.takes [5] (.opt 2 (PlanT.takes [3] (.opt 6 .done .no)) .no)) .no))) (by kernel_rfl) (by kernel_rfl) (by kernel_rfl) (hC0) ?_
    refine wpTree_takeL _ _ _ (by rfl) (by rfl) (hC0) ?_
    dsimp only [List.filterMap, List.getElem?_cons_zero, List.getElem?_cons_succ]
    (refine wpQuiet_load_cell (fun w' hw' => (Blk.near H6.out.1.2.2.2.1 hw' (by simp)).at_ 0 (v := .map (some (w.heap.size + 2))) rfl) (by rfl) _ _ (by rfl) (by rfl) _ Try.underlying143 (by rfl) ?_; simp only [Act.put, List.setIfInBounds_toArray, List.set_cons_zero, List.set_cons_succ])
    (refine wpQuiet_load_blk (fun w' hw' => Blk.near H6.out.2.1 hw' (by have := H6.out.2.2.2; simp; omega)) (by rfl) _ _ (by rfl) (by rfl) _ Try.underlying94 (by rfl) (sizeRaw) (by rw [List.size_toArray, List.length_map]; exact H6.out.2.2.1) ?_; simp only [Act.put, List.setIfInBounds_toArray, List.set_cons_zero, List.set_cons_succ])
    refine wpQuiet_nil ?_
    obtain ⟨c, hc⟩ : ∃ c, c = (d.cpys.take k).count (d.cpy k) := ⟨_, rfl⟩
    have hc4 : c ≤ 4 := by
      rw [hc]
      refine Nat.le_trans List.count_le_length ?_
      rw [List.length_take]; omega
    have hget : (kget kv (d.cpy k)).getD (.int .i64 0) = .int .i64 (c : Int) := by rw [HV.out.2, hc]
    have HG := Lib.hid (And.intro hget (And.intro (kask_get kv (d.cpy k) (.int .i64 0)) hc))
    clear hget hc
    have hend : ∀ (W8 : World), MapK W8 (w.heap.size + 2) (fun x : List UInt8 => x.length = 512) encRaw (kput kv (d.cpy k) (.int .i64 ((c : Int) + 1))) → Near [w.heap.size + 2] W6 W8 → KeepsFrom w4.heap.size W6 W8 ∧ Lp1 w.heap.size p d w (k + 1) W8 := by
      intro W8 hm hn
      refine ⟨KeepsFrom.near hn (fun x hx => by rw [List.mem_singleton.1 hx, H4.out.2]; omega), ?_⟩
      obtain ⟨q1, q2, q3, q4, q5, -⟩ := H6.out.1
      refine ⟨q1.high hn (by simp), q2.near hn (by simp), q3.near hn (by simp), q4.near hn (by simp), q5.near hn (by simp), ?_⟩
      have e : d.cpys.take (k + 1) = d.cpys.take k ++ [d.cpy k] := by
        have : k = 0 ∨ k = 1 ∨ k = 2 ∨ k = 3 := by omega
        rcases this with rfl | rfl | rfl | rfl <;> rfl
      rw [e]
      refine Votes.more (kv := kv) ?_ HV.out.2
      rw [← HG.out.2.2]; exact hm
    have HE := Lib.hid hend
    clear hend
    refine wpTree_opt _ rfl ?_ (wpTree_opt _ rfl ?_ trivial)
    · refine wpList_lookup_k (by rfl) rawKey _ _ _ _ _ (by rfl) Try.underlying143 (HV.out.1.near (Near.refl [] W6).drew (by simp)) (d.cpy k) H6.out.2.2.1 (.int .i64 0) (zeroInt _) (by rfl) (by rfl) ?_
      rw [if_neg (by simp), HG.out.1]
      simp only [Act.put, List.setIfInBounds_toArray, List.set_cons_zero, List.set_cons_succ]
      refine wpList_nil ?_
      refine TreeQ.in_ hC0 ?_
      refine wpTree_pure _ _ _ (by rfl) (by rfl) ?_
      dsimp only [List.filterMap, List.getElem?_cons_zero, List.getElem?_cons_succ]
      repeat (go_big_quiet_step (fail))
      refine wpQuiet_nil ?_
      refine wpTree_one _ rfl ?_
      refine wpList_mapEntry_k (by rfl) rawKey _ _ _ _ (by rfl) Try.underlying143 (HV.out.1.near (Near.refl [] W6).drew (by simp)) (d.cpy k) H6.out.2.2.1 (.int .i64 0) (zeroInt _) (by rfl) (by rfl) ?_
      intro W7 b hm7 hu7
      simp only [Act.put, List.setIfInBounds_toArray, List.set_cons_zero, List.set_cons_succ]
      refine wpList_nil ?_
      have hC7 := hC0.trans (Near.upd hu7 (List.mem_singleton_self _))
      refine TreeQ.in_ hC7 ?_
      refine wpTree_pure _ _ _ (by rfl) (by rfl) ?_
      dsimp only [List.filterMap, List.getElem?_cons_zero, List.getElem?_cons_succ]
      repeat (go_big_quiet_step (fail))
      refine wpQuiet_nil ?_
      refine wpTree_one _ rfl ?_
      refine wpList_entryStore_k (by rfl) _ _ _ _ (by rfl) hm7 (.int .i64 ((c : Int) + 1)) (by rfl) (by rfl) (by rfl) ?_
      intro W8 hm8 hu8
      simp only [Act.put]
      refine wpList_nil ?_
      have hC8 := hC7.trans (Near.upd hu8 (List.mem_singleton_self _))
      refine TreeQ.in_ hC8 ?_
      refine wpTree_done ?_
      exact HE.out W8 hm8 hC8
    · refine wpList_mapEntry_k (by rfl) rawKey _ _ _ _ (by rfl) Try.underlying143 (HV.out.1.near (Near.refl [] W6).drew (by simp)) (d.cpy k) H6.out.2.2.1 (.int .i64 0) (zeroInt _) (by rfl) (by rfl) ?_
      intro W7 b hm7 hu7
      simp only [Act.put, List.setIfInBounds_toArray, List.set_cons_zero, List.set_cons_succ]
      refine wpList_nil ?_
      have hC7 := hC0.trans (Near.upd hu7 (List.mem_singleton_self _))
      refine TreeQ.in_ hC7 ?_
      refine wpTree_pure _ _ _ (by rfl) (by rfl) ?_
      dsimp only [List.filterMap, List.getElem?_cons_zero, List.getElem?_cons_succ]
      repeat (go_big_quiet_step (fail))
      refine wpQuiet_nil ?_
      refine wpTree_one _ rfl ?_
      refine wpList_lookup_k (by rfl) rawKey _ _ _ _ _ (by rfl) Try.underlying143 hm7.mapK (d.cpy k) H6.out.2.2.1 (.int .i64 0) (zeroInt _) (by rfl) (by rfl) ?_
      rw [if_neg (by simp), HG.out.2.1, HG.out.1]
      simp only [Act.put, List.setIfInBounds_toArray, List.set_cons_zero, List.set_cons_succ]
      refine wpList_nil ?_
      refine TreeQ.in_ hC7 ?_
      refine wpTree_pure _ _ _ (by rfl) (by rfl) ?_
      dsimp only [List.filterMap, List.getElem?_cons_zero, List.getElem?_cons_succ]
      repeat (go_big_quiet_step (fail))
      refine wpQuiet_nil ?_
      refine wpTree_one _ rfl ?_
      refine wpList_entryStore_k (by rfl) _ _ _ _ (by rfl) hm7 (.int .i64 ((c : Int) + 1)) (by rfl) (by rfl) (by rfl) ?_
      intro W8 hm8 hu8
      simp only [Act.put]
      refine wpList_nil ?_
      have hC8 := hC7.trans (Near.upd hu8 (List.mem_singleton_self _))
      refine TreeQ.in_ hC8 ?_
      refine wpTree_done ?_
      exact HE.out W8 hm8 hC8
  case done =>
    intro D W hD hI hK
    have hDlt : D < W.heap.size := (Array.getElem?_eq_some_iff.1 hK).1
    have HI := Lib.hid (And.intro hI (And.intro hK (And.intro hDlt (show w.heap.size + 5 ≤ D by have := H4.out.2; omega))))
    clear hI hK hDlt hD H4
    clear w4
    go_wp2_with fail
    refine (copies_any p.gd _).mono ?_
    rintro e w' ⟨rfl, rfl⟩
    have hL : Lp2 w.heap.size W.heap.size D p d w (((W.alloc (.cells spz 26)).alloc (.cells raw0 94)).alloc (.cells #[.pointer (some ⟨p.gd, 0, none⟩)] 27)) := by
      obtain ⟨q1, q2, q3, q4, -, q5⟩ := HI.out.1
      have hb := (((Below.refl W.heap.size W).alloc (Nat.le_refl _) (.cells spz 26)).alloc (by simp) (.cells raw0 94)).alloc (by simp; omega) (.cells #[.pointer (some ⟨p.gd, 0, none⟩)] 27)
      have hn := Near.below (X := []) hb
      exact ⟨q1.trans hn, q2.near hn (by simp), q3.near hn (by simp), q4.near hn (by simp), Blk.new' _ _ _ (by simp), q5.near hn (by simp), (hb.block D HI.out.2.2.1).trans HI.out.2.1⟩
    have hBs : BestR W.heap.size (((W.alloc (.cells spz 26)).alloc (.cells raw0 94)).alloc (.cells #[.pointer (some ⟨p.gd, 0, none⟩)] 27)) (Sp.bestK d.cpys 0) :=
      ⟨fun _ => 0, false, none, 0, [], ((Blk.new W _ _).alloc _).alloc _, by
        show Blk _ _ _ (zero512.map u8v).toArray
        rw [show (zero512.map u8v).toArray = raw0 from raw0_list.symm]
        exact (Blk.new' (W.alloc (.cells spz 26)) _ _ (by simp)).alloc _, ⟨fun _ _ => rfl, rfl, rfl⟩, fun h => absurd h (by simp), Nat.le_refl _, (fun _ h => by cases h), (by show zero512.length = 512; unfold zero512; rw [List.length_replicate])⟩
    have hz5 : (((W.alloc (.cells spz 26)).alloc (.cells raw0 94)).alloc (.cells #[.pointer (some ⟨p.gd, 0, none⟩)] 27)).heap.size = W.heap.size + 3 := by simp
    have eb : ((W.alloc (.cells spz 26)).alloc (.cells raw0 94)).heap.size = W.heap.size + 2 := by simp
    rw [eb]
    generalize ((W.alloc (.cells spz 26)).alloc (.cells raw0 94)).alloc (.cells #[.pointer (some ⟨p.gd, 0, none⟩)] 27) = w5 at hL hBs hz5 ⊢
    have hDS := HI.out.2.2
    generalize W.heap.size = S2 at hL hBs hz5 hDS ⊢
    have H5 := Lib.hid (And.intro hL (And.intro hBs (And.intro hz5 hDS)))
    clear hL hBs hz5 hDS eb HI
    clear W
    go_wp2_with fail
    refine wpIn_wide (n := 3).1 ?_
    refine wpIn_rangeRow rfl (by omega) (gf := 104) (lb := #[.pointer (some ⟨S2 + 2, 0, none⟩)]) rfl trivial (enters_of Try.func104 (by kernel_rfl) rfl)
      (encC d.cpy) (fun _ => rfl) 4 (fun k W => Lp2 w.heap.size S2 D p d w W ∧ BestR S2 W (Sp.bestK d.cpys k)) (fun _ _ => False)
      (fun k W W' h kw => ⟨h.1.keptW kw rfl H5.out.2.2.2.2 (by rw [H5.out.2.2.1]; have := H5.out.2.2.2.1; omega), h.2.keptW kw⟩) (fun _ _ _ h _ => h) ⟨H5.out.1, H5.out.2.1⟩ ?row ?round ?done ?stop
    case stop => exact fun _ _ _ _ h => h.elim
    case row =>
      refine copies_row 2 (by omega) p gf (S2 + 2) d.cpy _ fun k W h => ⟨h.1.2.2.2.2.1, fun _ => ⟨d, f, HD.out.1.near h.1.1 ⟨by simp, by simp, by simp⟩, HD.out.2.1.near h.1.1 (fun _ _ => by simp), HD.out.2.2.1, HD.out.2.2.2.1, HD.out.2.2.2.2, rfl⟩⟩
    case round =>
      intro l k W hl1 hl2 hI hk
      have hcl := cpy_len HD.out.2.2.1 HD.out.2.2.2.2 hk
      have HI := Lib.hid (And.intro hI hcl)
      clear hI hcl
      unfold encC
      gi_wp2_with (first
        | ((with_reducible show wpListIn _ _ _ _ _ ((⟨none, _, _, _, _, _⟩ : Oper) :: _) _ _); refine wpListIn_of (by rfl) ?_; refine wpList_store_blk (o := ⟨none, _, _, _, _, _⟩) ((Blk.new W 94 raw0)) (by rfl) _ _ _ (by rfl) (by rfl) (((d.cpy k).map u8v).toArray) (by rfl) (sizeRaw) (arr_size _ _) (by rw [List.size_toArray, List.length_map]; exact HI.out.2) (u8_all _) ?_; intro W5 h5 hu5; refine ⟨rfl, ?_⟩)
        | fail)
      refine ⟨((Below.refl _ _).alloc (Nat.le_refl _) _).upd hu5 (Nat.le_refl _), fun W6 hW6 => ?_⟩
      have hn5 := Near.below (X := []) (((Below.refl W.heap.size W).alloc (Nat.le_refl _) (.cells raw0 94)).upd hu5 (Nat.le_refl _))
      have hI6 := (HI.out.1.1.near hn5 (by simp) rfl H5.out.2.2.2.2 H5.out.2.2.2.1).keptW hW6 rfl H5.out.2.2.2.2 (by rw [H5.out.2.2.1]; have := H5.out.2.2.2.1; omega)
      have hb6 := (HI.out.1.2.near hn5).keptW hW6
      have h6 : Blk W6 W.heap.size 94 ((d.cpy k).map u8v).toArray := h5.keptW hW6
      have hgt : S2 + 3 ≤ W.heap.size := by have := H5.out.2.2.1; omega
      have H6 := Lib.hid (And.intro hI6 (And.intro hb6 (And.intro h6 (And.intro HI.out.2 hgt))))
      clear hI6 hb6 h6 hgt h5 hu5 hW6 HI hn5
      generalize W.heap.size = gx at H6 ⊢
      simp only [Act.put]
      gi_wp2_with fail
      refine ⟨trivial, (((callsIn_wide (n := 0)).2 (spRead_any (some ⟨gx, 0, none⟩) 512 512 (d.cpy k) W6 H6.out.2.2.2.1.symm (by rw [H6.out.2.2.2.1]; exact Nat.le_refl _) (by omega) (by rw [H6.out.2.2.2.1]; omega) (Blk.bytes H6.out.2.2.1))).inRound l).mono ?_⟩
      rintro e W7 ⟨f1, fe1, B1, dd1, hs1, rfl, hsm, hhd, hle, hfr, hB7⟩
      obtain ⟨rc, hrc⟩ : ∃ rc, rc = (Sp.read (d.cpy k)).1 := ⟨_, rfl⟩
      obtain ⟨rs, hrs⟩ : ∃ rs, rs = (Sp.read (d.cpy k)).2 := ⟨_, rfl⟩
      rw [← hrc]
      rw [← hrs] at hsm
      have hn7 := Near.below (X := []) hB7
      have H7 := Lib.hid (And.intro (H6.out.1.near hn7 (by simp) rfl H5.out.2.2.2.2 H5.out.2.2.2.1) (And.intro (H6.out.2.1.near hn7) (H6.out.2.2.1.near hn7 (by simp))))
      have H7s := Lib.hid (And.intro hsm (And.intro hhd (And.intro hle hfr)))
      have HR := Lib.hid (And.intro hrc hrs)
      have HN7 := Lib.hid hn7
      have hrc3 : rc = 0 ∨ rc = 4 ∨ rc = 12 := by
        rw [hrc]
        rcases Sp.read_cases (d.cpy k) with (h | h) | ⟨h, -⟩ <;> rw [h] <;> simp
      clear hsm hhd hle hfr hB7 hrc hrs hn7
      have hstay : (rc ≠ 0 ∨ ¬ 2 ≤ d.cpys.count (d.cpy k) ∨ ¬ (Sp.bestK d.cpys k).1.1 0 < rs.1 0) → Sp.bestK d.cpys (k + 1) = Sp.bestK d.cpys k := fun h => by
        rw [Sp.bestK_next d k hk]
        unfold Sp.step
        rw [← HR.out.1, ← HR.out.2]
        exact if_neg (fun h' => by rcases h with h | h | h; exact h h'.1; exact h h'.2.1; exact h h'.2.2)
      have hgo : rc = 0 → 2 ≤ d.cpys.count (d.cpy k) → (Sp.bestK d.cpys k).1.1 0 < rs.1 0 → Sp.bestK d.cpys (k + 1) = (rs, d.cpy k) := fun h1 h2 h3 => by
        rw [Sp.bestK_next d k hk]
        unfold Sp.step
        rw [← HR.out.1, ← HR.out.2]
        exact if_pos ⟨h1, h2, h3⟩
      have hend : ∀ W', Near [] W7 W' → Sp.bestK d.cpys (k + 1) = Sp.bestK d.cpys k → KeepsFrom w5.heap.size W6 W' ∧ Lp2 w.heap.size S2 D p d w W' ∧ BestR S2 W' (Sp.bestK d.cpys (k + 1)) := fun W' hn e => by
        rw [e]
        exact ⟨KeepsFrom.near (HN7.out.trans hn) (by simp), H7.out.1.near hn (by simp) rfl H5.out.2.2.2.2 H5.out.2.2.2.1, H7.out.2.1.near hn⟩
      have HE := Lib.hid (And.intro hstay (And.intro hgo hend))
      clear hstay hgo hend
      rcases hrc3 with rfl | rfl | rfl
      case inr.inl | inr.inr =>
        gi_wp2_with (first
          | ((with_reducible show wpListIn _ _ _ _ _ ((⟨none, _, _, _, _, _⟩ : Oper) :: _) _ _); refine wpListIn_of (by rfl) ?_; refine wpList_store_blk (o := ⟨none, _, _, _, _, _⟩) ((Blk.new W7 26 spz)) (by rfl) _ _ _ (by rfl) (by rfl) (spc f1 fe1 (.slice B1 hs1.length dd1)) (by rfl) (sizeSuper) (spc_size _ _ _) (spc_size _ _ _) (spc_one _ _ _ rfl) ?_; intro W8 h8 hu8; have hn8 := Near.below (X := []) (((Below.refl W7.heap.size W7).alloc (Nat.le_refl _) (.cells spz 26)).upd hu8 (Nat.le_refl _)); have H8 := Lib.hid (And.intro hn8 h8); clear hn8 h8 hu8; refine ⟨rfl, ?_⟩)
          | fail)
        exact HE.out.2.2 _ H8.out.1 (HE.out.1 (.inl (by decide)))
      obtain ⟨fb, feb, Bb, ddb, hsb, hb1, hb2, hb3, hb4⟩ := H7.out.2.1
      have e0 : fb 0 = (Sp.bestK d.cpys k).1.1 0 := hb3.1 0 (by omega)
      have e1 : f1 0 = rs.1 0 := H7s.out.1.1 0 (by omega)
      have HB := Lib.hid (And.intro hb1 (And.intro hb2 (And.intro e0 e1)))
      clear hb1 hb2 hb3 hb4 e0 e1
      obtain ⟨kv, hkv, hcn⟩ := H7.out.1.2.2.2.2.2.1
      have HV := Lib.hid (And.intro hkv (hcn (d.cpy k)))
      clear hkv hcn
      obtain ⟨c, hc⟩ : ∃ c, c = d.cpys.count (d.cpy k) := ⟨_, rfl⟩
      rw [← hc] at HV HE
      clear hc
      by_cases c2 : 2 ≤ c
      case neg =>
        have HE2 := Lib.hid (HE.out.1 (.inr (.inl c2)))
        gi_wp2_with (first
          | ((with_reducible show wpListIn _ _ _ _ _ ((⟨none, _, _, _, _, _⟩ : Oper) :: _) _ _); refine wpListIn_of (by rfl) ?_; refine wpList_store_blk (o := ⟨none, _, _, _, _, _⟩) ((Blk.new W7 26 spz)) (by rfl) _ _ _ (by rfl) (by rfl) (spc f1 fe1 (.slice B1 hs1.length dd1)) (by rfl) (sizeSuper) (spc_size _ _ _) (spc_size _ _ _) (spc_one _ _ _ rfl) ?_; intro W8 h8 hu8; have hn8 := Near.below (X := []) (((Below.refl W7.heap.size W7).alloc (Nat.le_refl _) (.cells spz 26)).upd hu8 (Nat.le_refl _)); have H8 := Lib.hid (And.intro hn8 h8); clear hn8 h8 hu8; have d3 := (H7.out.1.2.2.2.1.near H8.out.1 (by simp)).at_ 0 (v := .map (some (w.heap.size + 2))) rfl; have d12 := H8.out.2.at_ 0 (v := .int .i64 (f1 0)) rfl; have d8 := (HB.out.1.near H8.out.1 (by simp)).at_ 0 (v := .int .i64 (fb 0)) rfl; refine ⟨rfl, ?_⟩)
          | ((with_reducible show wpListIn _ _ _ _ _ ((⟨some 38, _, _, _, _, _⟩ : Oper) :: _) _ _); refine wpListIn_of (by rfl) ?_; refine wpList_want (by rfl) ?_; refine wpList_load_blk (o := ⟨some 38, _, _, _, _, _⟩) ((H7.out.2.2.near H8.out.1 (by simp))) (by rfl) _ _ (by rfl) (by rfl) _ Try.underlying94 (by rfl) (sizeRaw) (by rw [List.size_toArray, List.length_map]; exact H6.out.2.2.2.1) ?_; refine ⟨rfl, ?_⟩)
          | ((with_reducible show wpListIn _ _ _ _ _ ((⟨some 39, _, _, _, _, _⟩ : Oper) :: _) _ _); refine wpListIn_of (by rfl) ?_; refine wpList_want (by rfl) ?_; refine wpList_lookup_k (o := ⟨some 39, _, _, _, _, _⟩) (by rfl) rawKey _ _ _ _ _ (by rfl) Try.underlying143 (HV.out.1.near H8.out.1 (by simp)) (d.cpy k) H6.out.2.2.2.1 (.int .i64 0) (zeroInt _) (by rfl) (by rfl) ?_; rw [if_neg (by simp), HV.out.2]; refine ⟨rfl, ?_⟩)
          | fail)
        exact HE.out.2.2 _ H8.out.1 HE2.out
      by_cases c3 : fb 0 < f1 0
      case neg =>
        have HE2 := Lib.hid (HE.out.1 (.inr (.inr (by rw [← HB.out.2.2.1, ← HB.out.2.2.2]; exact c3))))
        gi_wp2_with (first
          | ((with_reducible show wpListIn _ _ _ _ _ ((⟨none, _, _, _, _, _⟩ : Oper) :: _) _ _); refine wpListIn_of (by rfl) ?_; refine wpList_store_blk (o := ⟨none, _, _, _, _, _⟩) ((Blk.new W7 26 spz)) (by rfl) _ _ _ (by rfl) (by rfl) (spc f1 fe1 (.slice B1 hs1.length dd1)) (by rfl) (sizeSuper) (spc_size _ _ _) (spc_size _ _ _) (spc_one _ _ _ rfl) ?_; intro W8 h8 hu8; have hn8 := Near.below (X := []) (((Below.refl W7.heap.size W7).alloc (Nat.le_refl _) (.cells spz 26)).upd hu8 (Nat.le_refl _)); have H8 := Lib.hid (And.intro hn8 h8); clear hn8 h8 hu8; have d3 := (H7.out.1.2.2.2.1.near H8.out.1 (by simp)).at_ 0 (v := .map (some (w.heap.size + 2))) rfl; have d12 := H8.out.2.at_ 0 (v := .int .i64 (f1 0)) rfl; have d8 := (HB.out.1.near H8.out.1 (by simp)).at_ 0 (v := .int .i64 (fb 0)) rfl; refine ⟨rfl, ?_⟩)
          | ((with_reducible show wpListIn _ _ _ _ _ ((⟨some 38, _, _, _, _, _⟩ : Oper) :: _) _ _); refine wpListIn_of (by rfl) ?_; refine wpList_want (by rfl) ?_; refine wpList_load_blk (o := ⟨some 38, _, _, _, _, _⟩) ((H7.out.2.2.near H8.out.1 (by simp))) (by rfl) _ _ (by rfl) (by rfl) _ Try.underlying94 (by rfl) (sizeRaw) (by rw [List.size_toArray, List.length_map]; exact H6.out.2.2.2.1) ?_; refine ⟨rfl, ?_⟩)
          | ((with_reducible show wpListIn _ _ _ _ _ ((⟨some 39, _, _, _, _, _⟩ : Oper) :: _) _ _); refine wpListIn_of (by rfl) ?_; refine wpList_want (by rfl) ?_; refine wpList_lookup_k (o := ⟨some 39, _, _, _, _, _⟩) (by rfl) rawKey _ _ _ _ _ (by rfl) Try.underlying143 (HV.out.1.near H8.out.1 (by simp)) (d.cpy k) H6.out.2.2.2.1 (.int .i64 0) (zeroInt _) (by rfl) (by rfl) ?_; rw [if_neg (by simp), HV.out.2]; refine ⟨rfl, ?_⟩)
          | fail)
        exact HE.out.2.2 _ H8.out.1 HE2.out
      have HE2 := Lib.hid (HE.out.2.1 rfl c2 (by rw [← HB.out.2.2.1, ← HB.out.2.2.2]; exact c3))
      gi_wp2_with (first
        | ((with_reducible show wpListIn _ _ _ _ _ ((⟨none, _, _, _, _, _⟩ : Oper) :: _) _ _); refine wpListIn_of (by rfl) ?_; refine wpList_store_blk (o := ⟨none, _, _, _, _, _⟩) ((Blk.new W7 26 spz)) (by rfl) _ _ _ (by rfl) (by rfl) (spc f1 fe1 (.slice B1 hs1.length dd1)) (by rfl) (sizeSuper) (spc_size _ _ _) (spc_size _ _ _) (spc_one _ _ _ rfl) ?_; intro W8 h8 hu8; have hn8 := Near.below (X := []) (((Below.refl W7.heap.size W7).alloc (Nat.le_refl _) (.cells spz 26)).upd hu8 (Nat.le_refl _)); have H8 := Lib.hid (And.intro hn8 h8); clear hn8 h8 hu8; have d3 := (H7.out.1.2.2.2.1.near H8.out.1 (by simp)).at_ 0 (v := .map (some (w.heap.size + 2))) rfl; have d12 := H8.out.2.at_ 0 (v := .int .i64 (f1 0)) rfl; have d8 := (HB.out.1.near H8.out.1 (by simp)).at_ 0 (v := .int .i64 (fb 0)) rfl; refine ⟨rfl, ?_⟩)
        | ((with_reducible show wpListIn _ _ _ _ _ ((⟨some 38, _, _, _, _, _⟩ : Oper) :: _) _ _); refine wpListIn_of (by rfl) ?_; refine wpList_want (by rfl) ?_; refine wpList_load_blk (o := ⟨some 38, _, _, _, _, _⟩) ((H7.out.2.2.near H8.out.1 (by simp))) (by rfl) _ _ (by rfl) (by rfl) _ Try.underlying94 (by rfl) (sizeRaw) (by rw [List.size_toArray, List.length_map]; exact H6.out.2.2.2.1) ?_; refine ⟨rfl, ?_⟩)
        | ((with_reducible show wpListIn _ _ _ _ _ ((⟨some 39, _, _, _, _, _⟩ : Oper) :: _) _ _); refine wpListIn_of (by rfl) ?_; refine wpList_want (by rfl) ?_; refine wpList_lookup_k (o := ⟨some 39, _, _, _, _, _⟩) (by rfl) rawKey _ _ _ _ _ (by rfl) Try.underlying143 (HV.out.1.near H8.out.1 (by simp)) (d.cpy k) H6.out.2.2.2.1 (.int .i64 0) (zeroInt _) (by rfl) (by rfl) ?_; rw [if_neg (by simp), HV.out.2]; refine ⟨rfl, ?_⟩)
        | fail)
      have hgx : S2 + 3 ≤ gx := H6.out.2.2.2.2
      have hx7 : gx < W7.heap.size := H7.out.2.2.lt
      have hx6 : gx < W6.heap.size := H6.out.2.2.1.lt
      have hC0 := (Near.refl [S2, S2 + 1] W8).drew
      clear d3 d12 d8
      refine wpIn_region_tree (Near [S2, S2 + 1] W8) [] (PlanT.takes [0, 1] (.opt 2 (.opt 3 .done .no) .no)) (by kernel_rfl) (by kernel_rfl) (by kernel_rfl) (hC0) ?_
      refine wpTree_takeL _ _ _ (by rfl) (by rfl) (hC0) ?_
      dsimp only [List.filterMap, List.getElem?_cons_zero, List.getElem?_cons_succ]
      (refine wpQuiet_load_blk (fun w' hw' => Blk.near H8.out.2 hw' (by simp; omega)) (by rfl) _ _ (by rfl) (by rfl) _ Try.underlying26 (by rfl) (sizeSuper) (by exact spc_size _ _ _) ?_; simp only [Act.put, List.setIfInBounds_toArray, List.set_cons_zero, List.set_cons_succ])
      (refine wpQuiet_load_blk (fun w' hw' => Blk.near (H7.out.2.2.near H8.out.1 (by simp)) hw' (by simp; omega)) (by rfl) _ _ (by rfl) (by rfl) _ Try.underlying94 (by rfl) (sizeRaw) (by rw [List.size_toArray, List.length_map]; exact H6.out.2.2.2.1) ?_; simp only [Act.put, List.setIfInBounds_toArray, List.set_cons_zero, List.set_cons_succ])
      refine wpQuiet_nil ?_
      refine wpTree_one _ rfl ?_
      refine wpList_store_blk ((HB.out.1.near H8.out.1 (by simp)).drew) (by rfl) _ _ _ (by rfl) (by rfl) (spc f1 fe1 (.slice B1 hs1.length dd1)) (by rfl) sizeSuper (spc_size _ _ _) (spc_size _ _ _) (spc_one _ _ _ rfl) ?_
      intro W9 h9 hu9
      simp only [Act.put]
      refine wpList_nil ?_
      have hC9 := hC0.trans (Near.upd hu9 (by simp))
      refine TreeQ.in_ hC9 ?_
      refine wpTree_one _ rfl ?_
      have hb9 := ((HB.out.2.1.near H8.out.1 (by simp)).drew).near (Near.upd (X := [S2]) hu9 (by simp)) (by simp)
      have hl9 : (Sp.bestK d.cpys k).2.length = 512 := by obtain ⟨_, _, _, _, _, _, _, _, _, _, _, h⟩ := H7.out.2.1; exact h
      refine wpList_store_blk hb9 (by rfl) _ _ _ (by rfl) (by rfl) ((d.cpy k).map u8v).toArray (by rfl) sizeRaw (by rw [List.size_toArray, List.length_map]; exact hl9) (by rw [List.size_toArray, List.length_map]; exact H6.out.2.2.2.1) (u8_all _) ?_
      intro W10 h10 hu10
      simp only [Act.put]
      refine wpList_nil ?_
      have hC10 := hC9.trans (Near.upd hu10 (by simp))
      refine TreeQ.in_ hC10 ?_
      refine wpTree_done ?_
      have hn10 : Near [S2, S2 + 1] W7 W10 := (H8.out.1.wider (by simp)).trans hC10
      have hlS := H5.out.2.2.1
      refine ⟨KeepsFrom.near ((HN7.out.wider (by simp)).trans hn10) (fun x hx => by rw [hlS]; simp at hx; omega), H7.out.1.near hn10 (fun y hy => by simp at hy; omega) rfl H5.out.2.2.2.2 H5.out.2.2.2.1, ?_⟩
      rw [HE2.out]
      refine ⟨f1, fe1, B1, dd1, hs1, h9.near (Near.upd (X := [S2 + 1]) hu10 (by simp)) (by simp), h10, H7s.out.1, H7s.out.2.1.near hn10 (fun ad e => ?_), H7s.out.2.2.1, fun ad e => ?_, H6.out.2.2.2.1⟩
      · have := H7s.out.2.2.2 ad e
        simp; omega
      · have := H7s.out.2.2.2 ad e
        omega
    case done =>
      intro D2 W hD2 hI hK
      rw [Sp.bestK_all] at hI
      obtain ⟨fb, feb, Bb, ddb, hsb, hb1, hb2, hb3, hb4, hb5, hb6, hb7⟩ := hI.2
      have hD2lt : D2 < W.heap.size := (Array.getElem?_eq_some_iff.1 hK).1
      have hD2b : S2 + 3 ≤ D2 := by have := H5.out.2.2.1; omega
      have HI := Lib.hid (And.intro hI.1 (And.intro hK (And.intro hD2lt hD2b)))
      have HB := Lib.hid (And.intro hb1 (And.intro hb2 (And.intro hb3 (And.intro hb4 (And.intro hb5 (And.intro hb6 hb7))))))
      have hlS := H5.out.2.2
      clear hI hK hD2lt hD2 hD2b hb1 hb2 hb3 hb4 hb5 hb6 hb7 H5
      go_wp2_with fail
      have hC0 := (Near.refl [w.heap.size, w.heap.size + 1] W).drew
      refine wp_region_tree (Near [w.heap.size, w.heap.size + 1] W) [] (PlanT.takes [2] (PlanT.takes [0, 1, 3] (PlanT.takes [4] (.opt 5 (.opt 6 (PlanT.takes [7] .done) .no) .no)))) (by kernel_rfl) (by kernel_rfl) (hC0) ?_
      refine wpTree_pure _ _ _ (by rfl) (by rfl) ?_
      dsimp only [List.filterMap, List.getElem?_cons_zero, List.getElem?_cons_succ]
      repeat (go_big_quiet_step (fail))
      refine wpQuiet_nil ?_
      refine wpTree_takeL _ _ _ (by rfl) (by rfl) (hC0) ?_
      dsimp only [List.filterMap, List.getElem?_cons_zero, List.getElem?_cons_succ]
      (refine wpQuiet_load_blk (fun w' hw' => Blk.near HB.out.1 hw' (by simp; omega)) (by rfl) _ _ (by rfl) (by rfl) _ Try.underlying26 (by rfl) (sizeSuper) (by exact spc_size _ _ _) ?_; simp only [Act.put, List.setIfInBounds_toArray, List.set_cons_zero, List.set_cons_succ])
      (refine wpQuiet_load_blk (fun w' hw' => Blk.near HB.out.2.1 hw' (by simp; omega)) (by rfl) _ _ (by rfl) (by rfl) _ Try.underlying94 (by rfl) (sizeRaw) (by rw [List.size_toArray, List.length_map]; exact HB.out.2.2.2.2.2.2) ?_; simp only [Act.put, List.setIfInBounds_toArray, List.set_cons_zero, List.set_cons_succ])
      (refine wpQuiet_load_cell (fun w' hw' => (Blk.near HB.out.1 hw' (by simp; omega)).at_ 0 (v := .int .i64 (fb 0)) rfl) (by rfl) _ _ (by rfl) (by rfl) _ Try.underlying3 (by rfl) ?_; simp only [Act.put, List.setIfInBounds_toArray, List.set_cons_zero, List.set_cons_succ])
      refine wpQuiet_nil ?_
      refine wpTree_pure _ _ _ (by rfl) (by rfl) ?_
      dsimp only [List.filterMap, List.getElem?_cons_zero, List.getElem?_cons_succ]
      repeat (go_big_quiet_step (fail))
      refine wpQuiet_nil ?_
      refine wpTree_one _ rfl ?_
      refine wpList_store_blk (HI.out.1.2.1.drew) (by rfl) _ _ _ (by rfl) (by rfl) (spc fb feb (.slice Bb hsb.length ddb)) (by rfl) sizeSuper (spc_size _ _ _) (spc_size _ _ _) (spc_one _ _ _ rfl) ?_
      intro W9 h9 hu9
      simp only [Act.put]
      refine wpList_nil ?_
      have hC9 := hC0.trans (Near.upd hu9 (by simp))
      refine TreeQ.in_ hC9 ?_
      refine wpTree_one _ rfl ?_
      have hb9 := (HI.out.1.2.2.1.drew).near (Near.upd (X := [w.heap.size]) hu9 (by simp)) (by simp)
      refine wpList_store_blk hb9 (by rfl) _ _ _ (by rfl) (by rfl) ((Sp.best d.cpys).2.map u8v).toArray (by rfl) sizeRaw (by rw [raw0_list, List.size_toArray, List.length_map, List.length_replicate]) (by rw [List.size_toArray, List.length_map]; exact HB.out.2.2.2.2.2.2) (u8_all _) ?_
      intro W10 h10 hu10
      simp only [Act.put]
      refine wpList_nil ?_
      have hC10 := hC9.trans (Near.upd hu10 (by simp))
      refine TreeQ.in_ hC10 ?_
      refine wpTree_pure _ _ _ (by rfl) (by rfl) ?_
      dsimp only [List.filterMap, List.getElem?_cons_zero, List.getElem?_cons_succ]
      repeat (go_big_quiet_step (fail))
      refine wpQuiet_nil ?_
      refine wpTree_done ?_
      have h9' := h9.near (Near.upd (X := [w.heap.size + 1]) hu10 (by simp)) (by simp)
      have hK2 : W10.heap[D2]? = some (.deferred (some [])) := (hC10.block D2 HI.out.2.2.1 (by have := HI.out.2.2.2; simp; omega)).trans HI.out.2.1
      have hK1 : W10.heap[D]? = some (.deferred (some [])) := (hC10.block D (by have := HI.out.1.2.2.2.2.1.lt; omega) (by simp; omega)).trans HI.out.1.2.2.2.2.2.2
      have HX := Lib.hid (And.intro h9' (And.intro h10 (And.intro hK1 (And.intro hK2 hC10))))
      clear h9' h10 hK1 hK2 hC10 hu9 hu10 hC9 hb9 h9 hC0
      have hDD : D ≠ D2 := by have h1 := HI.out.2.2.2; have h2 := hlS.2.1; omega
      have e0 : fb 0 = (Sp.best d.cpys).1.1 0 := HB.out.2.2.1.1 0 (by omega)
      have HE := Lib.hid e0
      clear e0
      go_wp2_with fail
      refine ⟨by simp, .inl ⟨_, _, rfl, run_takeDeferred HX.out.2.2.2.1, ?_⟩⟩
      refine ⟨by simp, .inl ⟨_, _, rfl, run_takeDeferred (mark_other HX.out.2.2.1 hDD), ?_⟩⟩
      have k1 := mark_kept (B := w.heap.size + 5) (by have := HI.out.2.2.2; omega) HX.out.2.2.2.1
      have k2 := mark_kept (B := w.heap.size + 5) (by omega) (mark_other HX.out.2.2.1 hDD)
      refine ⟨_, results_rows_tmp rfl _ _ w.heap.size (w.heap.size + 1) _ _ _ _ _ _ rfl ((HX.out.1.keptW k1).keptW k2) rfl ((HX.out.2.1.keptW k1).keptW k2) Try.underlying26 rfl sizeSuper Try.underlying94 rfl (by rw [List.size_toArray, List.length_map, HB.out.2.2.2.2.2.2]; exact sizeRaw), ?_⟩
      refine ⟨fb, feb, Bb, ddb, hsb, ?_, HB.out.2.2.1, ((HB.out.2.2.2.1.near HX.out.2.2.2.2 (fun ad e => ?_)).keptW k1).keptW k2, HB.out.2.2.2.2.1, fun ad e => by have h1 := HB.out.2.2.2.2.2.1 ad e; have h2 := hlS.2; omega, ?_⟩
      · rw [← HE.out]; rfl
      · have := HB.out.2.2.2.2.2.1 ad e
        simp; omega
      · have hn : Near [] w W10 := HI.out.1.1.high HX.out.2.2.2.2 (by simp)
        exact ((hn.keptW k1 (by omega)).keptW k2 (by omega)).toBelow (by simp) (Nat.le_refl _)
end Go.Proofs.Ytmhfehhpfkjloaa
