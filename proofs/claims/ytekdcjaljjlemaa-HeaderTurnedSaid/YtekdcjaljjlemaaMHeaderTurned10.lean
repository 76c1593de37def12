/- How arguments of bytes come in: a slice of bytes, an array of 16 bytes. Plain facts. No condition. -/
import Derived.Test.YtekdcjaljjlemaaMHeaderTurned9
import Derived.ProofKit
import Derived.OpenShut
import Derived.Deep.Slices
import Derived.Test.YtekdcjaljjlemaaRows
namespace Go
open Go.ChangeShapes Go.WideShapes Go.ChangeAt Go.RowKit
theorem wf_u8 {z : Int} (h : (Lit.int .u8 z).wf = true) : Value.int .u8 z = u8v (UInt8.ofNat z.toNat) := by
  simp [Lit.wf, IntKind.min, IntKind.max, IntKind.signed, IntKind.bits] at h
  unfold u8v
  rw [iu8_ofNat _ (by omega)]
  congr 1
  omega
section
variable {H : Type} {enc : TypeId × Value → H} {P : Program} {W : World}
theorem open_u8s {t e : TypeId} (ht : P.underlying t = some (.slice e)) (he : P.underlying e = some (.int .u8)) (hc : P.cellsOf e = 1) {base : Nat} {v : Value} {d : DataW H} {p : List MemPlace}
    (hval : Value.okWide P W .any base t v) (h : DataW.Trod enc P W 0 (fun _ => true) true t v d p) : ∃ A c l, v = .slice A l.length c ∧ l.length ≤ c ∧ c ≤ 9223372036854775807 ∧ Bytes W A l := by
  obtain ⟨a1, len, cap, rfl⟩ := okWide_slice ht hval
  obtain ⟨fuel, hf⟩ := h
  rcases open_ints ht he hc hf with ⟨hcs, hx⟩ | ⟨a, len', cap', zs, hcs, _, hl, hm, hz, hx, hcell, hwz⟩
  · simp [Value.cells] at hcs
    obtain ⟨rfl, rfl, rfl⟩ := hcs
    exact ⟨none, 0, [], rfl, Nat.le_refl _, by omega, Reads.nil _ _⟩
  · simp [Value.cells] at hcs
    obtain ⟨rfl, rfl, rfl⟩ := hcs
    simp only [if_true] at hz
    have hlen : ((zs.take len).map fun n => UInt8.ofNat n.toNat).length = len := by simp; omega
    refine ⟨some a, cap, (zs.take len).map fun n => UInt8.ofNat n.toNat, by rw [hlen], by rw [hlen]; exact hl, by simpa [maxLen] using hm, fun hn => ?_⟩
    have hpos : 0 < len := by
      rcases Nat.eq_zero_or_pos len with h0 | h0
      · subst h0; simp at hn
      · exact h0
    obtain ⟨ab, ao, spot⟩ := a
    have hspot : spot = none := by simpa [Addr.add] using World.cell?_spot (hcell 0 (by omega))
    subst hspot
    refine ⟨ab, ao, rfl, fun j u hu => ?_⟩
    have hj : j < len := by
      rcases Nat.lt_or_ge j len with h1 | h1
      · exact h1
      · rw [List.getElem?_eq_none (by simp; omega)] at hu; cases hu
    have hcj := hcell j (by omega)
    rw [Addr.add_lit] at hcj
    rw [hcj]
    have hjz : j < zs.length := by omega
    simp [hj, hjz] at hu
    rw [← hu, ← wf_u8 (hwz zs[j] (List.getElem_mem hjz))]
    simp [hjz]
theorem open_u8arr {t e : TypeId} {n : Nat} (ht : P.underlying t = some (.array n e)) (he : P.underlying e = some (.int .u8)) (hc : P.cellsOf e = 1) (hn : P.cellsOf t = n) {base : Nat} {v : Value} {d : DataW H} {p : List MemPlace}
    (hval : Value.okWide P W .any base t v) (h : DataW.Trod enc P W 0 (fun _ => true) true t v d p) : ∃ s : List UInt8, v = .agg (s.map u8v).toArray ∧ s.length = n := by
  have hv : ∃ xs : Array Value, v = .agg xs := by
    simp only [Value.okWide, ht] at hval
    obtain ⟨cs, h1, _⟩ := hval
    exact ⟨cs, h1⟩
  obtain ⟨xs, rfl⟩ := hv
  obtain ⟨fuel, hf⟩ := h
  obtain ⟨ys, m, rfl, hx, hlen, hyl, hel⟩ := DataW.trod_array ht hf
  simp only [Value.cells] at hlen hel
  rw [hn] at hlen
  have key : ∀ i, i < n → ∃ b : UInt8, xs[i]? = some (u8v b) := by
    intro i hi
    have h1 := hel i hi
    rw [hc, Nat.mul_one] at h1
    have hy : i < ys.length := by omega
    rw [List.getElem?_eq_getElem hy] at h1
    obtain ⟨z, hz, _, wz⟩ := DataW.trod_int he h1
    have hi2 : i < xs.toList.length := by omega
    have e1 : (xs.toList.drop i).take 1 = [xs.toList[i]] := by
      rw [List.drop_eq_getElem_cons hi2]; simp
    rw [e1] at hz
    refine ⟨UInt8.ofNat z.toNat, ?_⟩
    rw [← wf_u8 wz]
    simp only [List.cons.injEq, and_true] at hz
    rw [← hz]
    simp at hi2
    simp [hi2]
  have : ∀ u ∈ xs.toList, ∃ b, u = u8v b := fun u hu => by
    obtain ⟨i, hi, rfl⟩ := List.mem_iff_getElem.1 hu
    obtain ⟨b, hb⟩ := key i (by omega)
    refine ⟨b, ?_⟩
    have hi2 : i < xs.size := by simpa using hi
    rw [Array.getElem?_eq_getElem hi2] at hb
    simpa using hb
  obtain ⟨s, hs⟩ := u8_list this
  refine ⟨s, ?_, ?_⟩
  · rw [← hs]
  · have : (s.map u8v).length = n := by rw [← hs]; exact hlen
    simpa using this
end
end Go

/- How an argument of plain data comes in, whatever its type: its shape (numbers, bools, strings, slices, arrays, structs), what it says, which cells it has. Plain facts over any program. No condition. -/
namespace Go
open Go.ChangeShapes Go.WideShapes Go.RowKit
/-- A type's shape; a struct is its fields, one behind the other. -/
inductive Sh where
  | int (k : IntKind)
  | byte
  | bool
  | str
  | slice (e : Sh)
  | arr (n : Nat) (e : Sh)
  | nil
  | cons (f r : Sh)
def Sh.size : Sh → Nat
  | .int _ => 1
  | .byte => 1
  | .bool => 1
  | .str => 1
  | .slice _ => 1
  | .arr n e => n * e.size
  | .nil => 0
  | .cons f r => f.size + r.size
/-- What a value of a shape says. -/
def Sh.T : Sh → Type
  | .int _ => Int
  | .byte => UInt8
  | .bool => Bool
  | .str => ByteArray
  | .slice e => List e.T
  | .arr _ e => List e.T
  | .nil => Unit
  | .cons f r => f.T × r.T
/-- Two lists, place by place. -/
def Both {α β : Type} (R : α → β → Prop) : List α → List β → Prop
  | [], [] => True
  | a :: l, b :: m => R a b ∧ Both R l m
  | _, _ => False
theorem Both.imp {α β : Type} {R S : α → β → Prop} (h : ∀ a b, R a b → S a b) : ∀ {l : List α} {m : List β}, Both R l m → Both S l m
  | [], [], _ => trivial
  | _ :: _, _ :: _, ⟨h1, h2⟩ => ⟨h _ _ h1, Both.imp h h2⟩
theorem Both.length {α β : Type} {R : α → β → Prop} : ∀ {l : List α} {m : List β}, Both R l m → l.length = m.length
  | [], [], _ => rfl
  | _ :: _, _ :: _, ⟨_, h2⟩ => by simp [Both.length h2]
theorem Both.make {α β : Type} {R : α → β → Prop} : ∀ (m : List β), (∀ b, b ∈ m → ∃ a, R a b) → ∃ l, Both R l m
  | [], _ => ⟨[], trivial⟩
  | b :: m, h => by
    obtain ⟨a, ha⟩ := h b (by simp)
    obtain ⟨l, hl⟩ := Both.make m (fun x hx => h x (by simp [hx]))
    exact ⟨a :: l, ha, hl⟩
/-- The cells of a value of this shape. -/
def Sh.Is (w : World) : (s : Sh) → s.T → List Value → Prop
  | .int k => fun (x : Int) cs => cs = [.int k x] ∧ k.min ≤ x ∧ x ≤ k.max
  | .byte => fun (b : UInt8) cs => cs = [u8v b]
  | .bool => fun (b : Bool) cs => cs = [.bool b]
  | .str => fun (s : ByteArray) cs => cs = [.string s] ∧ s.size ≤ maxLen
  | .slice e => fun (l : List e.T) cs => ∃ A c rows, cs = [.slice A l.length c] ∧ l.length ≤ c ∧ c ≤ maxLen ∧ Both (fun d r => r.length = e.size ∧ Sh.Is w e d r) l rows ∧ Reads w A rows.flatten
  | .arr n e => fun (l : List e.T) cs => l.length = n ∧ ∃ rows, cs = rows.flatten ∧ Both (fun d r => r.length = e.size ∧ Sh.Is w e d r) l rows
  | .nil => fun _ cs => cs = []
  | .cons f r => fun (d : f.T × r.T) cs => ∃ c1 c2, cs = c1 ++ c2 ∧ c1.length = f.size ∧ Sh.Is w f d.1 c1 ∧ Sh.Is w r d.2 c2
theorem Sh.Is.below {w w' : World} (hb : Below w.heap.size w w') : ∀ (s : Sh) (d : s.T) (cs : List Value), s.Is w d cs → s.Is w' d cs
  | .int _, _, _, h => h
  | .byte, _, _, h => h
  | .bool, _, _, h => h
  | .str, _, _, h => h
  | .slice e, _, _, h => by
    obtain ⟨A, c, rows, h1, h2, h3, h4, h5⟩ := h
    exact ⟨A, c, rows, h1, h2, h3, h4.imp fun a b hh => ⟨hh.1, Sh.Is.below hb e a b hh.2⟩, h5.below hb⟩
  | .arr _ e, _, _, h => by
    obtain ⟨h0, rows, h1, h4⟩ := h
    exact ⟨h0, rows, h1, h4.imp fun a b hh => ⟨hh.1, Sh.Is.below hb e a b hh.2⟩⟩
  | .nil, _, _, h => h
  | .cons f r, _, _, h => by
    obtain ⟨c1, c2, h1, h2, h3, h4⟩ := h
    exact ⟨c1, c2, h1, h2, Sh.Is.below hb f _ _ h3, Sh.Is.below hb r _ _ h4⟩
instance {w w' : World} {s : Sh} {d : s.T} {cs : List Value} : KeepsTo w w' (s.Is w d cs) (s.Is w' d cs) := ⟨fun hb h => Sh.Is.below hb s d cs h⟩
theorem Sh.Is.length {w : World} : ∀ (s : Sh) (d : s.T) (cs : List Value), s.Is w d cs → cs.length = s.size
  | .int _, _, _, h => by rw [h.1]; rfl
  | .byte, _, _, h => by rw [h]; rfl
  | .bool, _, _, h => by rw [h]; rfl
  | .str, _, _, h => by rw [h.1]; rfl
  | .slice e, _, _, h => by
    obtain ⟨A, c, rows, h1, _⟩ := h
    rw [h1]; rfl
  | .arr n e, _, _, h => by
    obtain ⟨h0, rows, rfl, h4⟩ := h
    have key : ∀ (l : List e.T) (rows : List (List Value)), Both (fun d r => r.length = e.size ∧ Sh.Is w e d r) l rows → rows.flatten.length = l.length * e.size := by
      intro l
      induction l with
      | nil => intro rows h; cases rows with
        | nil => simp
        | cons _ _ => exact h.elim
      | cons a l ih => intro rows h; cases rows with
        | nil => exact h.elim
        | cons r rows => simp only [List.flatten_cons, List.length_append, h.1.1, ih rows h.2, List.length_cons]; rw [Nat.add_mul]; omega
    rw [key _ _ h4, h0]; rfl
  | .nil, _, _, h => by rw [h]; rfl
  | .cons f r, _, _, h => by
    obtain ⟨c1, c2, rfl, h2, h3, h4⟩ := h
    rw [List.length_append, h2, Sh.Is.length r _ _ h4]; rfl
/-- Does a type of the program have this shape (first); are these the fields from this cell on (second)? -/
def Sh.fits (P : Program) : Sh → (TypeId → Bool) × (List Field → Nat → Bool)
  | .int k => (fun t => match P.underlying t with | some (.int j) => j == k | _ => false, fun _ _ => false)
  | .byte => (fun t => match P.underlying t with | some (.int j) => j == .u8 | _ => false, fun _ _ => false)
  | .bool => (fun t => match P.underlying t with | some .bool => true | _ => false, fun _ _ => false)
  | .str => (fun t => match P.underlying t with | some .string => true | _ => false, fun _ _ => false)
  | .slice e => (fun t => match P.underlying t with | some (.slice u) => (e.fits P).1 u && P.cellsOf u == e.size | _ => false, fun _ _ => false)
  | .arr n e => (fun t => match P.underlying t with | some (.array m u) => m == n && (e.fits P).1 u && P.cellsOf u == e.size && P.cellsOf t == n * e.size | _ => false, fun _ _ => false)
  | .nil => (fun t => match P.underlying t with | some (.struct fs) => fs.toList.isEmpty && P.cellsOf t == 0 | _ => false, fun fs _ => fs.isEmpty)
  | .cons f r => (fun t => match P.underlying t with
      | some (.struct fs) => (match fs.toList with | fd :: rest => fd.offset == 0 && P.cellsOf fd.type == f.size && (f.fits P).1 fd.type && (r.fits P).2 rest f.size | [] => false) && P.cellsOf t == f.size + r.size
      | _ => false,
    fun fs off => match fs with | fd :: rest => fd.offset == off && P.cellsOf fd.type == f.size && (f.fits P).1 fd.type && (r.fits P).2 rest (off + f.size) | [] => false)
section
variable {H : Type} {enc : TypeId × Value → H} {P : Program} {w : World} {base : Nat} {spare : Nat → Bool} {held : Bool}
/-- What each field reads as is known. -/
def FieldsRead (enc : TypeId × Value → H) (P : Program) (w : World) (base : Nat) (spare : Nat → Bool) (held : Bool) (n : Nat) (fs : List Field) (cs : List Value) : Prop :=
  ∀ f, f ∈ fs → ∃ x, DataW.trod enc P w base spare held n f.type ((cs.drop f.offset).take (P.cellsOf f.type)) = some x
theorem wf_u8' {z : Int} (h : (Lit.int .u8 z).wf = true) : Value.int .u8 z = u8v (UInt8.ofNat z.toNat) := by
  simp [Lit.wf, IntKind.min, IntKind.max, IntKind.signed, IntKind.bits] at h
  unfold u8v
  rw [iu8_ofNat _ (by omega)]
  congr 1
  omega
theorem wf_bounds {k : IntKind} {n : Int} (h : (Lit.int k n).wf = true) : k.min ≤ n ∧ n ≤ k.max := by
  simpa [Lit.wf] using h
theorem Sh.opened : ∀ s : Sh, (∀ (t : TypeId) (fuel : Nat) (cs : List Value) (x : DataW H × List MemPlace), (s.fits P).1 t = true → DataW.trod enc P w base spare held fuel t cs = some x → ∃ d : s.T, s.Is w d cs) ∧
    (∀ (fs : List Field) (off n : Nat) (cs : List Value), (s.fits P).2 fs off = true → cs.length = off + s.size → FieldsRead enc P w base spare held n fs cs → ∃ d : s.T, s.Is w d (cs.drop off)) := by
  have none2 : ∀ (fs : List Field) (off : Nat), (fun (_ : List Field) (_ : Nat) => false) fs off = true → False := fun _ _ h => by cases h
  intro s
  induction s with
  | int k =>
    refine ⟨fun t fuel cs x hf h => ?_, fun fs off n cs hf => (none2 fs off hf).elim⟩
    simp only [Sh.fits] at hf
    split at hf
    · rename_i j hu
      obtain rfl : j = k := by simpa using hf
      obtain ⟨n, rfl, _, hw⟩ := DataW.trod_int hu h
      exact ⟨n, rfl, wf_bounds hw⟩
    · cases hf
  | byte =>
    refine ⟨fun t fuel cs x hf h => ?_, fun fs off n cs hf => (none2 fs off hf).elim⟩
    simp only [Sh.fits] at hf
    split at hf
    · rename_i j hu
      obtain rfl : j = .u8 := by simpa using hf
      obtain ⟨n, rfl, _, hw⟩ := DataW.trod_int hu h
      exact ⟨UInt8.ofNat n.toNat, by rw [wf_u8' hw]; rfl⟩
    · cases hf
  | bool =>
    refine ⟨fun t fuel cs x hf h => ?_, fun fs off n cs hf => (none2 fs off hf).elim⟩
    simp only [Sh.fits] at hf
    split at hf
    · rename_i hu
      obtain ⟨b, rfl, _⟩ := DataW.trod_bool hu h
      exact ⟨b, rfl⟩
    · cases hf
  | str =>
    refine ⟨fun t fuel cs x hf h => ?_, fun fs off n cs hf => (none2 fs off hf).elim⟩
    simp only [Sh.fits] at hf
    split at hf
    · rename_i hu
      obtain ⟨b, rfl, _, hm⟩ := DataW.trod_string hu h
      exact ⟨b, rfl, hm⟩
    · cases hf
  | slice e ih =>
    refine ⟨fun t fuel cs x hf h => ?_, fun fs off n cs hf => (none2 fs off hf).elim⟩
    simp only [Sh.fits] at hf
    split at hf
    · rename_i u hu
      simp only [Bool.and_eq_true, beq_iff_eq] at hf
      rcases Go.Deep.open_slice hu h with ⟨rfl, _⟩ | ⟨a, len, cap, m, n, D, Pl, rfl, _, hl, hm, hmm, _, hi⟩
      · exact ⟨([] : List e.T), none, 0, [], rfl, Nat.le_refl _, by simp [maxLen], trivial, Reads.nil _ _⟩
      · have hlm : len ≤ m := by rw [hmm]; split <;> omega
        rw [hf.2] at hi
        -- the rows, one an element
        have hrow : ∀ i, i < len → ∃ r : List Value, r.length = e.size ∧ (∃ d, e.Is w d r) ∧ ∀ j, j < e.size → w.cell? (a.add (i * e.size + j)) = r[j]? := fun i hil => by
          obtain ⟨r, h1, h2⟩ := hi i (by omega)
          obtain ⟨_, hlen, hc⟩ := World.cells?_some h1
          exact ⟨r, hlen, ih.1 u n r _ hf.1 h2, fun j hj => by rw [← hc j hj, Go.Deep.add_add]⟩
        have hrows : ∃ rows : List (List Value), rows.length = len ∧ ∀ i r, rows[i]? = some r → r.length = e.size ∧ (∃ d, e.Is w d r) ∧ ∀ j, j < e.size → w.cell? (a.add (i * e.size + j)) = r[j]? := by
          clear hi hmm hl hm
          have : ∀ k, k ≤ len → ∃ rows : List (List Value), rows.length = k ∧ ∀ i r, rows[i]? = some r → r.length = e.size ∧ (∃ d, e.Is w d r) ∧ ∀ j, j < e.size → w.cell? (a.add (i * e.size + j)) = r[j]? := by
            intro k
            induction k with
            | zero => exact fun _ => ⟨[], rfl, fun i r h => by simp at h⟩
            | succ k ihk =>
              intro hk
              obtain ⟨rows, h1, h2⟩ := ihk (by omega)
              obtain ⟨r, hr⟩ := hrow k (by omega)
              refine ⟨rows ++ [r], by simp [h1], fun i r' h' => ?_⟩
              rcases Nat.lt_or_ge i k with hlt | hge
              · rw [List.getElem?_append_left (by omega)] at h'; exact h2 i r' h'
              · rw [List.getElem?_append_right (by omega)] at h'
                rcases Nat.eq_or_lt_of_le hge with heq | hlt
                · subst heq; rw [h1] at h'; simp at h'; subst h'; exact hr
                · rw [List.getElem?_eq_none (by simp; omega)] at h'; cases h'
          exact this len (Nat.le_refl _)
        obtain ⟨rows, hrl, hr⟩ := hrows
        obtain ⟨l, hb⟩ := Both.make (R := fun d r => r.length = e.size ∧ Sh.Is w e d r) rows (fun r hmem => by
          obtain ⟨i, hil, rfl⟩ := List.mem_iff_getElem.1 hmem
          obtain ⟨h1, ⟨d, h2⟩, _⟩ := hr i rows[i] (List.getElem?_eq_getElem hil)
          exact ⟨d, h1, h2⟩)
        have hll : l.length = len := by rw [hb.length, hrl]
        refine ⟨l, some a, cap, rows, by rw [hll], by omega, hm, hb, fun hne => ?_⟩
        -- flattened
        have hflat : ∀ (rows : List (List Value)) (k : Nat), (∀ i r, rows[i]? = some r → r.length = e.size ∧ ∀ j, j < e.size → w.cell? (a.add ((k + i) * e.size + j)) = r[j]?) →
            ∀ j v, rows.flatten[j]? = some v → w.cell? (a.add (k * e.size + j)) = some v := by
          intro rows
          induction rows with
          | nil => intro k _ j v h; simp at h
          | cons r rows ihr =>
            intro k hk j v hv
            obtain ⟨h1, h2⟩ := hk 0 r rfl
            simp only [List.flatten_cons] at hv
            rcases Nat.lt_or_ge j r.length with hlt | hge
            · rw [List.getElem?_append_left hlt] at hv
              have := h2 j (by omega)
              rw [Nat.add_zero] at this; rw [this, hv]
            · rw [List.getElem?_append_right hge] at hv
              have := ihr (k + 1) (fun i r' h' => by
                have := hk (i + 1) r' (by simpa using h')
                rw [show k + 1 + i = k + (i + 1) by omega]; exact this) (j - r.length) v hv
              rw [← this]; congr 2; rw [Nat.add_mul, h1]; omega
        have hcells := hflat rows 0 (fun i r h' => ⟨(hr i r h').1, by simpa using (hr i r h').2.2⟩)
        obtain ⟨v0, hv0⟩ : ∃ v, rows.flatten[0]? = some v := by
          cases hfl : rows.flatten with
          | nil => exact absurd hfl hne
          | cons v _ => exact ⟨v, rfl⟩
        have h00 := hcells 0 v0 hv0
        obtain ⟨ab, ao, spot⟩ := a
        have hspot : spot = none := by simpa [Addr.add] using World.cell?_spot h00
        subst hspot
        refine ⟨ab, ao, rfl, fun j v hv => ?_⟩
        have := hcells j v hv
        simpa [Addr.add_lit] using this
    · cases hf
  | arr n e ih =>
    refine ⟨fun t fuel cs x hf h => ?_, fun fs off n cs hf => (none2 fs off hf).elim⟩
    simp only [Sh.fits] at hf
    split at hf
    · rename_i m u hu
      simp only [Bool.and_eq_true, beq_iff_eq] at hf
      obtain ⟨⟨⟨rfl, hfe⟩, hce⟩, hct⟩ := hf
      obtain ⟨xs, k, _, _, hlen, hxl, hi⟩ := DataW.trod_array hu h
      rw [hce] at hi
      rw [hct] at hlen
      have key : ∀ (k2 : Nat) (cs : List Value), cs.length = k2 * e.size → (∀ i, i < k2 → ∃ d, e.Is w d ((cs.drop (i * e.size)).take e.size)) → ∃ l : List e.T, l.length = k2 ∧ ∃ rows : List (List Value), cs = rows.flatten ∧ Both (fun d r => r.length = e.size ∧ Sh.Is w e d r) l rows := by
        intro k2
        induction k2 with
        | zero => intro cs hl _; exact ⟨[], rfl, [], by rw [Nat.zero_mul] at hl; simpa using hl, trivial⟩
        | succ k2 ihk =>
          intro cs hl hall
          have hle : e.size ≤ cs.length := by rw [hl, Nat.add_mul]; omega
          obtain ⟨d, hd⟩ := hall 0 (by omega)
          obtain ⟨l, hll, rows, hr, hb⟩ := ihk (cs.drop e.size) (by rw [List.length_drop, hl, Nat.add_mul]; omega) (fun i hik => by
            have := hall (i + 1) (by omega)
            rw [List.drop_drop]
            rw [show e.size + i * e.size = (i + 1) * e.size by rw [Nat.add_mul]; omega]; exact this)
          refine ⟨d :: l, by simp [hll], cs.take e.size :: rows, by rw [List.flatten_cons, ← hr, List.take_append_drop], ⟨by rw [List.length_take]; omega, by simpa using hd⟩, hb⟩
      obtain ⟨l, h1, h2⟩ := key m cs hlen (fun i him => by
        have := hi i him
        rw [List.getElem?_eq_getElem (by omega)] at this
        exact ih.1 u k _ _ hfe this)
      exact ⟨l, h1, h2⟩
    · cases hf
  | nil =>
    refine ⟨fun t fuel cs x hf h => ?_, fun fs off n cs hf hl hr => ?_⟩
    · simp only [Sh.fits] at hf
      split at hf
      · rename_i fs hu
        simp only [Bool.and_eq_true, beq_iff_eq] at hf
        obtain ⟨xs, k, _, _, hlen, _⟩ := DataW.trod_struct hu h
        rw [hf.2] at hlen
        exact ⟨(), List.eq_nil_of_length_eq_zero hlen⟩
      · cases hf
    · refine ⟨(), ?_⟩
      simp only [Sh.size, Nat.add_zero] at hl
      show cs.drop off = []
      rw [← hl]; simp
  | cons f r ihf ihr =>
    have key : ∀ (fs : List Field) (off n : Nat) (cs : List Value), ((Sh.cons f r).fits P).2 fs off = true → cs.length = off + (Sh.cons f r).size → FieldsRead enc P w base spare held n fs cs → ∃ d : (Sh.cons f r).T, (Sh.cons f r).Is w d (cs.drop off) := by
      intro fs off n cs hf hl hr
      simp only [Sh.fits] at hf
      simp only [Sh.size] at hl
      cases fs with
      | nil => cases hf
      | cons fd rest =>
        simp only [Bool.and_eq_true, beq_iff_eq] at hf
        obtain ⟨⟨⟨h1, h2⟩, h3⟩, h4⟩ := hf
        obtain ⟨x, hx⟩ := hr fd (by simp)
        rw [h1, h2] at hx
        obtain ⟨d1, hd1⟩ := ihf.1 fd.type n _ x h3 hx
        obtain ⟨d2, hd2⟩ := ihr.2 rest (off + f.size) n cs h4 (by omega) (fun f' h' => hr f' (by simp [h']))
        refine ⟨(d1, d2), (cs.drop off).take f.size, cs.drop (off + f.size), ?_, ?_, hd1, hd2⟩
        · rw [← List.drop_drop, List.take_append_drop]
        · rw [List.length_take, List.length_drop]; omega
    refine ⟨fun t fuel cs x hf h => ?_, key⟩
    simp only [Sh.fits] at hf
    split at hf
    · rename_i fs hu
      simp only [Bool.and_eq_true, beq_iff_eq] at hf
      obtain ⟨xs, n, _, _, hlen, hxl, hi⟩ := DataW.trod_struct hu h
      rw [hf.2] at hlen
      have := key fs.toList 0 n cs (by simp only [Sh.fits]; split at hf <;> simp_all) (by simp only [Sh.size]; omega) (fun f' h' => by
        obtain ⟨i, hil, rfl⟩ := List.mem_iff_getElem.1 h'
        have := hi i fs.toList[i] (by simp)
        have hix : i < xs.length := by rw [hxl]; simpa using hil
        rw [List.getElem?_eq_getElem hix] at this
        exact ⟨_, this⟩)
      simpa using this
    · cases hf
/-- An argument: its cells and what they say. -/
theorem Sh.open_ (s : Sh) {t : TypeId} {v : Value} {d : DataW H} {p : List MemPlace} (hf : (s.fits P).1 t = true) (h : DataW.Trod enc P w base spare held t v d p) : ∃ x : s.T, s.Is w x v.cells.toList := by
  obtain ⟨fuel, h⟩ := h
  exact (Sh.opened s).1 t fuel v.cells.toList _ hf h
end
/-! ### What it comes to for the shapes that are met most -/
theorem both_bytes {w : World} : ∀ {l : List UInt8} {rows : List (List Value)}, Both (fun (d : UInt8) r => r.length = 1 ∧ Sh.Is w .byte d r) l rows → rows.flatten = l.map u8v
  | [], [], _ => rfl
  | a :: l, r :: rows, ⟨h1, h2⟩ => by
    have hr : r = [u8v a] := h1.2
    rw [List.flatten_cons, hr, both_bytes h2]; rfl
theorem Sh.Is.bytes {w : World} {l : List UInt8} {cs : List Value} (h : (Sh.slice .byte).Is w l cs) : ∃ A c, cs = [.slice A l.length c] ∧ l.length ≤ c ∧ c ≤ 9223372036854775807 ∧ Bytes w A l := by
  obtain ⟨A, c, rows, h1, h2, h3, h4, h5⟩ := h
  refine ⟨A, c, h1, h2, by simpa [maxLen] using h3, ?_⟩
  unfold Bytes
  rw [← both_bytes h4]; exact h5
theorem Sh.Is.arrBytes {w : World} {n : Nat} {l : List UInt8} {cs : List Value} (h : (Sh.arr n .byte).Is w l cs) : l.length = n ∧ cs = l.map u8v := by
  obtain ⟨h0, rows, h1, h4⟩ := h
  exact ⟨h0, by rw [h1, both_bytes h4]⟩
theorem vcell {v x : Value} (h : v.cells.toList = [x]) (hx : ∀ cs, v ≠ .agg cs) : v = x := by
  cases v
  case agg cs => exact absurd rfl (hx cs)
  all_goals (simp [Value.cells] at h; exact h)
/-- The rows of a slice's elements, of one size each, one by one. -/
theorem both_at {α : Type} {R : α → List Value → Prop} {k : Nat} : ∀ {l : List α} {rows : List (List Value)}, Both (fun d r => r.length = k ∧ R d r) l rows → ∀ (i : Nat) (hi : i < l.length), ∃ r, r.length = k ∧ R l[i] r ∧ ∀ j, j < k → rows.flatten[i * k + j]? = r[j]?
  | [], _, _, i, hi => absurd hi (by simp)
  | a :: l, [], h, _, _ => h.elim
  | a :: l, r :: rows, ⟨h1, h2⟩, 0, _ => ⟨r, h1.1, h1.2, fun j hj => by
      rw [List.flatten_cons, Nat.zero_mul, Nat.zero_add, List.getElem?_append_left (by omega)]⟩
  | a :: l, r :: rows, ⟨h1, h2⟩, i + 1, hi => by
    obtain ⟨r', e1, e2, e3⟩ := both_at h2 i (by simpa using hi)
    refine ⟨r', e1, by simpa using e2, fun j hj => ?_⟩
    rw [List.flatten_cons, List.getElem?_append_right (by rw [h1.1, Nat.add_mul]; omega), ← e3 j hj]
    congr 1
    rw [h1.1, Nat.add_mul]; omega
end Go

/- What every statement's row asks of the program's tables, and how arguments of bytes come in. Plain facts of this program. No condition. -/
namespace Go.Proofs.Ytekdcjaljjlemaa
open Go.ChangeShapes Go.WideShapes Go.ChangeAt Go.RowKit
theorem Try.own : ownKnob Try.prog.godebug = none := by kernel_rfl
theorem Try.laidOut : laidOutB Try.prog = true := by kernel_rfl
theorem cells_u8 : Try.prog.cellsOf 5 = 1 := by kernel_rfl
end Go.Proofs.Ytekdcjaljjlemaa
namespace Go
open Go.ChangeShapes Go.WideShapes Go.ChangeAt Go.RowKit
section
variable {P : Program} {W : World} {t : TypeId} {base : Nat} {v : Value}
theorem arg_slice {u : TypeId} {e : Sh} {l : List e.T} (ht : P.underlying t = some (.slice u)) (hval : Value.okWide P W .any base t v) (h : (Sh.slice e).Is W l v.cells.toList) :
    ∃ A c rows, v = .slice A l.length c ∧ l.length ≤ c ∧ c ≤ 9223372036854775807 ∧ Both (fun d r => r.length = e.size ∧ Sh.Is W e d r) l rows ∧ Reads W A rows.flatten := by
  obtain ⟨a, len, cap, rfl⟩ := okWide_slice ht hval
  obtain ⟨A, c, rows, h1, h2, h3, h4, h5⟩ := h
  exact ⟨A, c, rows, by simpa [Value.cells] using h1, h2, by simpa [maxLen] using h3, h4, h5⟩
theorem arg_bytes {u : TypeId} {l : List UInt8} (ht : P.underlying t = some (.slice u)) (hval : Value.okWide P W .any base t v) (h : (Sh.slice .byte).Is W l v.cells.toList) :
    ∃ A c, v = .slice A l.length c ∧ l.length ≤ c ∧ c ≤ 9223372036854775807 ∧ Bytes W A l := by
  obtain ⟨a, len, cap, rfl⟩ := okWide_slice ht hval
  obtain ⟨A, c, h1, h2⟩ := Sh.Is.bytes h
  exact ⟨A, c, by simpa [Value.cells] using h1, h2⟩
theorem arg_agg {s : Sh} {x : s.T} {d : TypeDesc} (ht : P.underlying t = some d) (hd : (match d with | .struct _ | .array _ _ => true | _ => false) = true) (hval : Value.okWide P W .any base t v) (h : s.Is W x v.cells.toList) :
    ∃ cs : List Value, v = .agg cs.toArray ∧ s.Is W x cs := by
  have hv : ∃ cs : Array Value, v = .agg cs := by
    unfold Value.okWide at hval
    rw [ht] at hval
    cases d <;> first | (simp at hd; done) | (obtain ⟨cs, h1, _⟩ := hval; exact ⟨cs, h1⟩)
  obtain ⟨cs, rfl⟩ := hv
  exact ⟨cs.toList, by simp, h⟩
theorem arg_int {k : IntKind} {x : Int} (ht : P.underlying t = some (.int k)) (hval : Value.okWide P W .any base t v) (h : (Sh.int k).Is W x v.cells.toList) : v = .int k x ∧ k.min ≤ x ∧ x ≤ k.max := by
  obtain ⟨n, rfl⟩ := okWide_int ht hval
  refine ⟨by simpa [Value.cells] using h.1, h.2⟩
theorem arg_bool {x : Bool} (ht : P.underlying t = some .bool) (hval : Value.okWide P W .any base t v) (h : Sh.bool.Is W x v.cells.toList) : v = .bool x := by
  obtain ⟨n, rfl⟩ := okWide_bool ht hval
  have h' : (Value.bool n).cells.toList = [.bool x] := h
  simpa [Value.cells] using h'
end
end Go

/- make([]T, n): the elements' noughts. Plain facts over any program. Condition: n is at most 2^47. -/
namespace Go
open Go.RowKit
/-- make([]T, n): the elements' noughts. -/
theorem wpList_make_zero {P : Program} (w : World) {ops : Array Oper} {rest : List Oper} {o : Oper} {a : Act} {Q : Exit → Act → World → Prop}
    (hg : o.guard = none) (l c : Operand) (t : TypeId) (hop : o.op = Op.makeSlice t l c) (e : TypeId) (z : Value) (size bytes : Nat) (h1 : P.underlying t = some (.slice e)) (h2 : (P.info? e).map (fun i => (i.zero, i.size, i.bytes)) = some (some z, size, bytes))
    (kl kc : IntKind) (n m : Nat) (hl : a.eval l = .int kl n) (hc : a.eval c = .int kc m) (hnm : n ≤ m) (hm : m ≤ 140737488400000) (hm2 : bytes * m ≤ 140737488400000) (cs : Array Value) (hcs : madeCells z.cells (m * size) = cs)
    (hK : ∀ w', Blk w' w.heap.size e cs → Below w.heap.size w w' → w'.heap.size = w.heap.size + 1 → wpList P ops Q rest (a.put o.dst (.slice (some ⟨w.heap.size, 0, none⟩) n m)) w') :
    wpList P ops Q (o :: rest) a w := by
  obtain ⟨i, hi, hzz⟩ := Option.map_eq_some_iff.1 h2
  simp only [Prod.mk.injEq] at hzz
  obtain ⟨hz, hs, hb⟩ := hzz
  have hr := run_make (P := P) w t e i _ h1 hi hz kl kc n m (by omega) (by omega) (by rw [hb]; omega) (by omega)
  rw [Int.toNat_natCast, Int.toNat_natCast, hs, hcs] at hr
  refine wpList_plain hg fun K hK' => ?_
  unfold Oper.wp
  simp only [execOp, hop, hl, hc, hr, Sem.run_bind, Result.andThen_ok, Sem.run_pure]
  exact hK' _ _ (hK _ (Blk.new w e _) ((Below.refl _ _).alloc (Nat.le_refl _) _) (by simp))
end Go

/- What the kit asks of lists that shall share no memory: each is written over, and the others stay. Conditions: they lie whole in blocks of their own, or are nil. -/
namespace Go
open Go.RowKit
/-- A list that lies whole in a block, or none: its address, its length, all its bytes up to its capacity. -/
structure Ent where
  A : Option Addr
  n : Nat
  l : List UInt8
def Ent.val (e : Ent) : Value := .slice e.A e.n e.l.length
def Ent.blk (e : Ent) : Option Nat := e.A.map (·.block)
def Ent.Is (w : World) (e : Ent) : Prop :=
  e.n ≤ e.l.length ∧ e.l.length ≤ 140737488351232 ∧ ((e.A = none ∧ e.l = []) ∨ ∃ g t, e.A = some ⟨g, 0, none⟩ ∧ Blk w g t (e.l.map u8v).toArray)
theorem Ent.Is.bytes {w : World} {e : Ent} (h : e.Is w) : Bytes w e.A e.l := by
  obtain ⟨_, _, ⟨h1, h2⟩ | ⟨g, t, h1, h2⟩⟩ := h
  · rw [h1, h2]; exact Reads.nil _ _
  · rw [h1]; exact h2.bytes
theorem Ent.Is.kept {w w' : World} {row : Option Nat} {e : Ent} (h : e.Is w) (hg : w.grownBy w' row) (hne : ∀ g, e.blk = some g → some g ≠ row) : e.Is w' := by
  obtain ⟨h1, h2, h3 | ⟨g, t, h3, h4⟩⟩ := h
  · exact ⟨h1, h2, .inl h3⟩
  · exact ⟨h1, h2, .inr ⟨g, t, h3, (hg.block g h4.lt (hne g (by unfold Ent.blk; rw [h3]; rfl))).trans h4⟩⟩
theorem Ent.Is.below {w w' : World} {e : Ent} {B : Nat} (h : e.Is w) (hb : Below B w w') (hlt : ∀ g, e.blk = some g → g < B) : e.Is w' := by
  obtain ⟨h1, h2, h3 | ⟨g, t, h3, h4⟩⟩ := h
  · exact ⟨h1, h2, .inl h3⟩
  · exact ⟨h1, h2, .inr ⟨g, t, h3, h4.below hb (hlt g (by unfold Ent.blk; rw [h3]; rfl))⟩⟩
theorem Ent.Is.lt {w : World} {e : Ent} (h : e.Is w) : ∀ g, e.blk = some g → g < w.heap.size := by
  intro g hg
  obtain ⟨_, _, ⟨h3, _⟩ | ⟨g', t, h3, h4⟩⟩ := h
  · unfold Ent.blk at hg; rw [h3] at hg; cases hg
  · unfold Ent.blk at hg; rw [h3] at hg; simp at hg; subst hg; exact h4.lt
theorem Upd.grownBy {w w' : World} {g : Nat} (u : Upd g w w') : w.grownBy w' (some g) := ⟨u.os, u.tape, u.output, by rw [u.size]; exact Nat.le_refl _, fun k _ hk => u.block k (fun e => hk (by rw [e]))⟩
end Go
namespace Go.Proofs.Ytekdcjaljjlemaa
open Go.RowKit
def Ent.over (e : Ent) : Ent := ⟨e.A, e.n, Proofs.Ytekdcjaljjlemaa.over e.l⟩
theorem Ent.over_over (e : Ent) : Ent.over (Ent.over e) = e := by unfold Ent.over; rw [Proofs.Ytekdcjaljjlemaa.over_over]
theorem over_ent (e : Ent) (w : World) (h : e.Is w) : Calls Try.prog 31 #[e.val] w fun r w' => r = .returned (.tuple #[]) ∧ (Ent.over e).Is w' ∧ w.grownBy w' e.blk := by
  obtain ⟨A, n, l⟩ := e
  obtain ⟨h1, h2, ⟨h3, h4⟩ | ⟨g, t, h3, h4⟩⟩ := h
  · simp only at h1 h2 h3 h4
    subst h3 h4
    obtain rfl : n = 0 := by simpa using h1
    refine (over_nil w).mono ?_
    rintro r w' ⟨rfl, rfl⟩
    exact ⟨rfl, ⟨by simp [Ent.over, Proofs.Ytekdcjaljjlemaa.over], by simp [Ent.over, Proofs.Ytekdcjaljjlemaa.over], .inl ⟨rfl, by simp [Ent.over, Proofs.Ytekdcjaljjlemaa.over]⟩⟩, World.grownBy.refl _ _⟩
  · simp only at h1 h2 h3 h4
    subst h3
    refine (over_any g n l.length l h1 rfl (by omega) w t h4).mono ?_
    rintro r w' ⟨rfl, hg, hu⟩
    exact ⟨rfl, ⟨by simpa [Ent.over, over_length] using h1, by simpa [Ent.over, over_length] using h2, .inr ⟨g, t, rfl, hg⟩⟩, hu.grownBy⟩
theorem nils_cells (n : Nat) : madeCells (Value.slice none 0 0).cells (n * 1) = (List.replicate n (Value.slice none 0 0)).toArray := by
  unfold madeCells
  apply Array.ext_getElem?
  intro a
  by_cases ha : a < n
  · simp [Value.cells, ha, Nat.mod_one]
  · simp [Value.cells, ha]
theorem infoBytes : (Try.prog.info? 27).map (fun i => (i.zero, i.size, i.bytes)) = some (some (.slice none 0 0), 1, 24) := by kernel_rfl
def ApartSt (gl : Nat) (es : List Ent) (wr : World) : Prop := Blk wr gl 27 (es.map Ent.val).toArray ∧ ∀ e ∈ es, e.Is wr
def Apart0 (base : Nat) (w : World) (gl : Nat) (es : List Ent) (v : Value) (wr : World) : Prop :=
  ∃ i : Nat, i ≤ es.length ∧ v = .int .i64 (i : Int) ∧ ApartSt gl es wr ∧ Below base w wr
def Apart1 (wi : World) (gw : Nat) (es : List Ent) (v : Value) (wr : World) : Prop :=
  ∃ (k : Nat) (cs : List Value), k ≤ es.length ∧ cs.length = k ∧ v = .int .i64 (k : Int) ∧ Blk wr gw 27 (cs ++ List.replicate (es.length - k) (Value.slice none 0 0)).toArray ∧
    (∀ (j : Nat) (v : Value) (e : Ent), cs[j]? = some v → es[j]? = some e → ∃ sp, OwnB 5 wr (gw + 1) v e.l sp) ∧ Below gw wi wr
def Apart2 (wj : World) (n : Nat) (v : Value) (wr : World) : Prop := ∃ k : Nat, k ≤ n ∧ v = .int .i64 (k : Int) ∧ Below wj.heap.size wj wr
theorem Ent.over_val (e : Ent) : (Ent.over e).val = e.val := by unfold Ent.over Ent.val; rw [over_length]
set_option maxHeartbeats 2000000 in
theorem apart_any (base gl c : Nat) (es : List Ent) (hes : es.length ≤ 1000) (w : World) (hbase : base ≤ w.heap.size) (hst : ApartSt gl es w)
    (hd : ∀ i j (hi : i < es.length) (hj : j < es.length), i ≠ j → ∀ g, es[i].blk = some g → es[j].blk ≠ some g) (hgl : ∀ e ∈ es, e.blk ≠ some gl) (hb : ∀ e ∈ es, ∀ g, e.blk = some g → base ≤ g) :
    Calls Try.prog 14 #[.slice (some ⟨gl, 0, none⟩) es.length c] w fun e w' => e = .returned (.bool true) ∧ Below base w w' := by
  have HD := Lib.hid hd
  have HGL := Lib.hid hgl
  have HB := Lib.hid hb
  clear hd hgl hb
  go_enter Try.func14, Try.ntmps14
  go_wp2_with fail
  go_loopw [3] (fun v wr => Apart0 base w gl es v wr) (fun v _ => es.length - (intOf v).toNat)
  case atStart => exact ⟨0, by omega, rfl, hst, Below.refl _ _⟩
  case round =>
    clear hst
    obtain ⟨i, hi, rfl, hst, hBr⟩ := hrel
    have HST := Lib.hid hst
    clear hst
    revert wr
    intro wi hBr HST
    by_cases hlt : i < es.length
    · go_wp2_with (first
        | (show wpList _ _ _ ((⟨some 15, _, _, _, _, _⟩ : Oper) :: _) _ _; refine wpList_make_zero _ (o := ⟨some 15, _, _, _, _, _⟩) (by rfl) _ _ _ (by rfl) 27 (.slice none 0 0) 1 24 Try.underlying37 infoBytes .i64 .i64 es.length es.length (by rfl) (by rfl) (Nat.le_refl _) (by omega) (by omega) _ (nils_cells es.length) ?_; intro w2 hw2 hbx hs2)
        | fail)
      go_loopw [5] (fun v wr => Apart1 wi wi.heap.size es v wr) (fun v _ => es.length - (intOf v).toNat)
      case atStart => exact ⟨0, [], by omega, rfl, rfl, by simpa using hw2, fun j v e h => by simp at h, hbx⟩
      case round =>
        clear hw2 hbx hs2
        obtain ⟨k, cs, hk, hcl, rfl, hgw, hown, hBk⟩ := hrel
        have HCL := Lib.hid hcl
        have HOWN := Lib.hid hown
        clear hcl hown
        by_cases hlk : k < es.length
        · have hgl3 := HST.out.1.below hBk HST.out.1.lt
          have hi3 : es[k].Is wr := (HST.out.2 es[k] (List.getElem_mem hlk)).below hBk (fun g hg => (HST.out.2 es[k] (List.getElem_mem hlk)).lt g hg)
          have hv3 : (es.map Ent.val).toArray[k]? = some es[k].val := by simp [hlk]
          have HE := Lib.hid (show es[k]? = some es[k] from List.getElem?_eq_getElem hlk)
          generalize es[k] = e at hi3 hv3 HE
          obtain ⟨A, n, l⟩ := e
          have hby := hi3.bytes
          obtain ⟨hn1, hn2, _⟩ := hi3
          simp only at hn1 hn2 hby
          have hv4 : (es.map Ent.val).toArray[k]? = some (.slice A n l.length) := hv3
          clear hv3
          have hgwl := hgw.lt
          go_wp2_with fail
          refine wp_region_plan (Below wr.heap.size wr) [14] [(true, 0), (true, 1), (true, 2), (true, 3), (true, 4), (true, 6), (true, 7), (true, 8), (true, 5), (true, 9), (true, 10), (true, 11), (false, 12), (true, 13), (false, 14)] (by kernel_rfl) (by kernel_rfl) (fun c a a' w h q => ⟨h ▸ q.1, q.2⟩) (Below.refl _ _).drew ?_
          refine wpPlan_pure [0, 1, 2, 3, 4, 6, 7, 8] [(true, 5), (true, 9), (true, 10), (true, 11), (false, 12), (true, 13), (false, 14)] _ (by rfl) (by rfl) ?_
          dsimp only [List.filterMap, List.getElem?_cons_zero, List.getElem?_cons_succ]
          repeat (go_big_quiet_step (fail))
          refine wpQuiet_nil ?_
          refine wpPlan_takeL [5, 9] [(true, 10), (true, 11), (false, 12), (true, 13), (false, 14)] _ (by rfl) (by rfl) (Below.refl _ _).drew ?_
          dsimp only [List.filterMap, List.getElem?_cons_zero, List.getElem?_cons_succ]
          (refine wpQuiet_load_cell (fun w' hw' => Blk.at_ (v := .slice A n l.length) (hgl3.below hw' hgl3.lt) k hv4) (by rfl) _ _ (by rfl) (by rfl) _ Try.underlying27 (by rfl) ?_; simp only [Act.put, List.setIfInBounds_toArray, List.set_cons_zero, List.set_cons_succ])
          (refine wpQuiet_load_cell (fun w' hw' => Blk.at_ (v := .slice A n l.length) (hgl3.below hw' hgl3.lt) k hv4) (by rfl) _ _ (by rfl) (by rfl) _ Try.underlying27 (by rfl) ?_; simp only [Act.put, List.setIfInBounds_toArray, List.set_cons_zero, List.set_cons_succ])
          refine wpQuiet_nil ?_
          refine wpPlan_pure [10, 11] [(false, 12), (true, 13), (false, 14)] _ (by rfl) (by rfl) ?_
          dsimp only [List.filterMap, List.getElem?_cons_zero, List.getElem?_cons_succ]
          repeat (go_big_quiet_step (fail))
          refine wpQuiet_nil ?_
          refine wpPlan_forceL _ rfl ?_
          go_wp2_with fail
          refine (copyBytes_any A l.length l.length l rfl (by omega) wr.drew hby).mono ?_
          rintro e w4 ⟨v4, sp4, rfl, ho4, hbx⟩
          have hC4 : Below wr.heap.size wr w4 := (Below.refl wr.heap.size wr).drew.trans (hbx.mono (Nat.le_refl _))
          have hgw4 := hgw.below hC4 hgwl
          obtain ⟨A4, c4, rfl, _, _, _⟩ := OwnB.open_ ho4
          have hcl := HCL.out
          have hrep : List.replicate (es.length - k) (Value.slice none 0 0) = Value.slice none 0 0 :: List.replicate (es.length - (k + 1)) (Value.slice none 0 0) := by
            rw [show es.length - k = es.length - (k + 1) + 1 by omega, List.replicate_succ]
          have d0 : w4.cell? ⟨wi.heap.size, k, none⟩ = some (.slice none 0 0) := hgw4.at_ k (by
            rw [List.getElem?_toArray, List.getElem?_append_right (by omega), hcl, Nat.sub_self, hrep]; rfl)
          have f0 := hgw4.frozen k
          have hgw5 := Lib.hid ((hgw4.set_ k (.slice A4 l.length c4)).sub (show _ = ((cs ++ [Value.slice A4 l.length c4]) ++ List.replicate (es.length - (k + 1)) (Value.slice none 0 0)).toArray by
            rw [List.setIfInBounds_toArray, List.set_append_right _ _ (by omega), hcl, Nat.sub_self, hrep, List.set_cons_zero]; simp))
          have hB5 := Lib.hid ((hBk.trans (hC4.mono hBk.size)).set_ (c := wi.heap.size) (i := k) (Nat.le_refl _) (.slice A4 l.length c4))
          have HOWN5 : Hid (∀ (j : Nat) (v : Value) (e : Ent), (cs ++ [Value.slice A4 l.length c4])[j]? = some v → es[j]? = some e → ∃ sp, OwnB 5 (w4.setCell ⟨wi.heap.size, k, none⟩ (.slice A4 l.length c4)) (wi.heap.size + 1) v e.l sp) := Lib.hid (by
            intro j v e hj he
            rcases Nat.lt_trichotomy j k with h | h | h
            · rw [List.getElem?_append_left (by omega)] at hj
              obtain ⟨sp, ho⟩ := HOWN.out j v e hj he
              exact ⟨sp, OwnsC.off (OwnsC.ownBelow ho hC4) (fun hh => by have := (OwnsC.lt ho _ hh).1; omega) _⟩
            · subst h
              rw [List.getElem?_append_right (by omega), hcl, Nat.sub_self] at hj
              simp at hj
              subst hj
              rw [HE.out] at he
              cases he
              exact ⟨sp4, OwnsC.off (OwnsC.base_ ho4 hgwl) (fun hh => by have h1 := (OwnsC.lt ho4 _ hh).1; have h2 : wr.heap.size ≤ wi.heap.size := h1; omega) _⟩
            · rw [List.getElem?_eq_none (by simp; omega)] at hj; cases hj)
          clear hbx hcl hrep hgw4 ho4 hgw hBk hby hgl3
          go_wp2_with fail
          refine PlanQ.in_ hC4 ?_
          clear hC4
          refine wpPlan_pure [13] [(false, 14)] _ (by rfl) (by rfl) ?_
          dsimp only [List.filterMap, List.getElem?_cons_zero, List.getElem?_cons_succ]
          repeat (go_big_quiet_step (fail))
          refine wpQuiet_nil ?_
          refine wpPlan_forceL _ rfl ?_
          go_wp2_with fail
          refine PlanQ.out (by rfl) ?_
          refine wpPlan_nil ?_
          go_wp2
          go_roundw
          case rel => exact ⟨k + 1, cs ++ [Value.slice A4 l.length c4], by omega, by have := HCL.out; simp [this], by go_num, hgw5.out, HOWN5.out, hB5.out⟩
          case measure => simp [intOf]; omega
        · obtain rfl : k = es.length := by omega
          have hgw' := Lib.hid (hgw.sub (show _ = cs.toArray by simp))
          have hgl3 := HST.out.1.below hBk HST.out.1.lt
          have his : ∀ e ∈ es, e.Is wr := fun e he => (HST.out.2 e he).below hBk (fun g hg => (HST.out.2 e he).lt g hg)
          have hv3 : (es.map Ent.val).toArray[i]? = some es[i].val := by simp [hlt]
          have d0 : wr.cell? ⟨gl, i, none⟩ = some es[i].val := hgl3.at_ i hv3
          have HIS := Lib.hid his
          have hgll := hgl3.lt
          have hgwl := hgw.lt
          have HG3 := Lib.hid hgl3
          obtain ⟨ev, hev⟩ : ∃ v, v = es[i].val := ⟨_, rfl⟩
          rw [← hev] at d0
          have HEV := Lib.hid hev
          clear hv3 his hgl3 hgw hev
          go_wp2_with fail
          rw [HEV.out]
          refine (over_ent es[i] wr (HIS.out es[i] (List.getElem_mem hlt))).mono ?_
          rintro e wj ⟨rfl, hov, hgr⟩
          have hblk : ∀ g, es[i].blk = some g → g < wi.heap.size := (HST.out.2 es[i] (List.getElem_mem hlt)).lt
          have hglj : Blk wj gl 27 (es.map Ent.val).toArray := (hgr.block gl hgll (fun e => HGL.out es[i] (List.getElem_mem hlt) e.symm)).trans HG3.out
          have hgwj : Blk wj wi.heap.size 27 cs.toArray := (hgr.block _ hgwl (fun e => by have := hblk _ e.symm; omega)).trans hgw'.out
          have HISJ : Hid (∀ m, (hm : m < es.length) → m ≠ i → es[m].Is wj) := Lib.hid (fun m hm hne => (HIS.out es[m] (List.getElem_mem hm)).kept hgr (fun g hg e => HD.out m i hm hlt hne g hg e.symm))
          have HOWNJ : Hid (∀ (j : Nat) (v : Value) (e : Ent), cs[j]? = some v → es[j]? = some e → ∃ sp, OwnB 5 wj (wi.heap.size + 1) v e.l sp) := Lib.hid (fun j v e h1 h2 => by
            obtain ⟨sp, ho⟩ := HOWN.out j v e h1 h2
            refine ⟨sp, OwnsC.kept ho hgr ?_⟩
            cases hvb : v.ownBlock with
            | none => exact .inl rfl
            | some g => exact .inr (fun hh => by have h3 := (OwnsC.lt ho _ hvb).1; have h4 := hblk g hh.symm; omega))
          have hB0 := HB.out es[i] (List.getElem_mem hlt)
          have hsi := hBr.size
          have hsk := hBk.size
          have hbi : base ≤ wi.heap.size := by omega
          have hBj := (hBr.trans (hBk.mono hbi)).grown hgr (by omega) hB0
          have HOV := Lib.hid hov
          have HGLJ := Lib.hid hglj
          have HGWJ := Lib.hid hgwj
          have HBJ := Lib.hid hBj
          clear d0 hov hglj hgwj hBj HOWN HIS HG3 hgw' hBk hgr
          go_wp2_with fail
          go_loopw [6] (fun v wr => Apart2 wj es.length v wr) (fun v _ => es.length - (intOf v).toNat)
          case atStart => exact ⟨0, by omega, rfl, Below.refl _ _⟩
          case round =>
            obtain ⟨k, hk2, rfl, hBj2⟩ := hrel
            have hgl4 := HGLJ.out.below hBj2 HGLJ.out.lt
            have hgw4 := HGWJ.out.below hBj2 HGWJ.out.lt
            by_cases hlk2 : k < es.length
            · by_cases hki : k = i
              · subst hki
                go_wp2_with fail
                refine wp_region_plan (Below wr.heap.size wr) [] [(true, 0), (true, 1), (true, 2), (true, 3), (true, 4), (true, 5), (true, 6), (true, 8), (true, 9), (true, 10), (true, 14), (true, 15), (true, 16), (true, 7), (true, 11), (true, 17), (true, 12), (true, 13), (false, 18), (true, 19), (true, 20)] (by kernel_rfl) (by kernel_rfl) (fun c a a' w h q => ⟨h ▸ q.1, q.2⟩) (Below.refl _ _).drew ?_
                refine wpPlan_pure [0, 1, 2, 3, 4, 5, 6, 8, 9, 10, 14, 15, 16] [(true, 7), (true, 11), (true, 17), (true, 12), (true, 13), (false, 18), (true, 19), (true, 20)] _ (by rfl) (by rfl) ?_
                dsimp only [List.filterMap, List.getElem?_cons_zero, List.getElem?_cons_succ]
                repeat (go_big_quiet_step (fail))
                refine wpQuiet_nil ?_
                refine wpPlan_takeL [7, 11, 17] [(true, 12), (true, 13), (false, 18), (true, 19), (true, 20)] _ (by rfl) (by rfl) (Below.refl _ _).drew ?_
                dsimp only [List.filterMap, List.getElem?_cons_zero, List.getElem?_cons_succ]
                repeat (go_big_quiet_step (fail))
                refine wpQuiet_nil ?_
                refine wpPlan_pure [12, 13] [(false, 18), (true, 19), (true, 20)] _ (by rfl) (by rfl) ?_
                dsimp only [List.filterMap, List.getElem?_cons_zero, List.getElem?_cons_succ]
                repeat (go_big_quiet_step (fail))
                refine wpQuiet_nil ?_
                refine wpPlan_forceL _ rfl ?_
                go_wp2_with fail
                refine PlanQ.in_ (Below.refl _ _).drew ?_
                refine wpPlan_pure [19, 20] [] _ (by rfl) (by rfl) ?_
                dsimp only [List.filterMap, List.getElem?_cons_zero, List.getElem?_cons_succ]
                repeat (go_big_quiet_step (fail))
                refine wpQuiet_nil ?_
                refine wpPlan_nil ?_
                go_wp2
                go_roundw
                case rel => exact ⟨k + 1, by omega, by go_num, hBj2.drew⟩
                case measure => simp [intOf]; omega
              · have hisk := HISJ.out k hlk2 hki
                have hv4 : (es.map Ent.val).toArray[k]? = some es[k].val := by simp [hlk2]
                have HE : es[k]? = some es[k] := List.getElem?_eq_getElem hlk2
                generalize es[k] = e at hisk hv4 HE
                obtain ⟨A, n, l⟩ := e
                have hcl := HCL.out
                have hck : cs[k]? = some (cs[k]'(by omega)) := List.getElem?_eq_getElem (by omega)
                generalize (cs[k]'(by omega)) = v5 at hck
                obtain ⟨sp5, ho5⟩ := HOWNJ.out k v5 _ hck HE
                obtain ⟨A5, c5, rfl, _, _, hb5⟩ := OwnB.open_ ho5
                have hc5 : cs.toArray[k]? = some (.slice A5 l.length c5) := by rw [List.getElem?_toArray]; exact hck
                have hby4 := Bytes.below hisk.bytes hBj2
                obtain ⟨hn1, hn2, _⟩ := hisk
                replace hb5 := Bytes.below hb5 hBj2
                simp only at hn1 hn2 hby4 hb5 hc5
                replace hv4 : (es.map Ent.val).toArray[k]? = some (.slice A n l.length) := hv4
                clear HE hck ho5 hcl
                have H1 : ((k : Int) != (i : Int)) = true := by rw [bne_iff_ne]; omega
                go_wp2_with fail
                refine wp_region_plan (Below wr.heap.size wr) [] [(true, 0), (true, 1), (true, 2), (true, 3), (true, 4), (true, 5), (true, 6), (true, 8), (true, 9), (true, 10), (true, 14), (true, 15), (true, 16), (true, 7), (true, 11), (true, 17), (true, 12), (true, 13), (false, 18), (true, 19), (true, 20)] (by kernel_rfl) (by kernel_rfl) (fun c a a' w h q => ⟨h ▸ q.1, q.2⟩) (Below.refl _ _).drew ?_
                refine wpPlan_pure [0, 1, 2, 3, 4, 5, 6, 8, 9, 10, 14, 15, 16] [(true, 7), (true, 11), (true, 17), (true, 12), (true, 13), (false, 18), (true, 19), (true, 20)] _ (by rfl) (by rfl) ?_
                dsimp only [List.filterMap, List.getElem?_cons_zero, List.getElem?_cons_succ]
                repeat (go_big_quiet_step (fail))
                refine wpQuiet_nil ?_
                refine wpPlan_takeL [7, 11, 17] [(true, 12), (true, 13), (false, 18), (true, 19), (true, 20)] _ (by rfl) (by rfl) (Below.refl _ _).drew ?_
                dsimp only [List.filterMap, List.getElem?_cons_zero, List.getElem?_cons_succ]
                (refine wpQuiet_want' (by rfl) ?_; refine wpQuiet_load_cell (fun w' hw' => Blk.at_ (v := .slice A n l.length) (hgl4.below hw' hgl4.lt) k hv4) (by rfl) _ _ (by rfl) (by rfl) _ Try.underlying27 (by rfl) ?_; simp only [Act.put, List.setIfInBounds_toArray, List.set_cons_zero, List.set_cons_succ])
                (refine wpQuiet_want' (by rfl) ?_; refine wpQuiet_load_cell (fun w' hw' => Blk.at_ (v := .slice A n l.length) (hgl4.below hw' hgl4.lt) k hv4) (by rfl) _ _ (by rfl) (by rfl) _ Try.underlying27 (by rfl) ?_; simp only [Act.put, List.setIfInBounds_toArray, List.set_cons_zero, List.set_cons_succ])
                (refine wpQuiet_want' (by rfl) ?_; refine wpQuiet_load_cell (fun w' hw' => Blk.at_ (v := .slice A5 l.length c5) (hgw4.below hw' hgw4.lt) k hc5) (by rfl) _ _ (by rfl) (by rfl) _ Try.underlying27 (by rfl) ?_; simp only [Act.put, List.setIfInBounds_toArray, List.set_cons_zero, List.set_cons_succ])
                refine wpQuiet_nil ?_
                refine wpPlan_pure [12, 13] [(false, 18), (true, 19), (true, 20)] _ (by rfl) (by rfl) ?_
                dsimp only [List.filterMap, List.getElem?_cons_zero, List.getElem?_cons_succ]
                repeat (go_big_quiet_step (fail))
                refine wpQuiet_nil ?_
                refine wpPlan_forceL _ rfl ?_
                go_wp2_with fail
                refine (sameBytes_any A A5 l.length l.length l.length c5 l l rfl rfl wr.drew hby4 hb5).mono ?_
                rintro e wz ⟨rfl, rfl⟩
                rw [decide_eq_true rfl]
                go_wp2_with fail
                refine PlanQ.in_ (Below.refl _ _).drew ?_
                refine wpPlan_pure [19, 20] [] _ (by rfl) (by rfl) ?_
                dsimp only [List.filterMap, List.getElem?_cons_zero, List.getElem?_cons_succ]
                repeat (go_big_quiet_step (fail))
                refine wpQuiet_nil ?_
                refine wpPlan_nil ?_
                go_wp2
                go_roundw
                case rel => exact ⟨k + 1, by omega, by go_num, hBj2.drew⟩
                case measure => simp [intOf]; omega
            · obtain rfl : k = es.length := by omega
              have hv3 : (es.map Ent.val).toArray[i]? = some es[i].val := by simp [hlt]
              have d0 : wr.cell? ⟨gl, i, none⟩ = some es[i].val := hgl4.at_ i hv3
              have hov := (HOV.out).below hBj2 (fun g hg => HOV.out.lt g hg)
              have HIS4 : Hid (∀ m, (hm : m < es.length) → m ≠ i → es[m].Is wr) := Lib.hid (fun m hm hne => (HISJ.out m hm hne).below hBj2 (fun g hg => (HISJ.out m hm hne).lt g hg))
              have hB4 := HBJ.out.trans (hBj2.mono (by have := HBJ.out.size; omega))
              obtain ⟨ev, hev⟩ : ∃ v, v = es[i].val := ⟨_, rfl⟩
              rw [← hev] at d0
              have HEV := Lib.hid hev
              have HG4 := Lib.hid hgl4
              have hgll4 := hgl4.lt
              clear hv3 hev hgw4 hgl4 hBj2
              go_wp2_with fail
              rw [HEV.out, ← Ent.over_val]
              refine (over_ent (Ent.over es[i]) wr hov).mono ?_
              rintro e w5 ⟨rfl, hov5, hgr5⟩
              rw [Ent.over_over] at hov5
              have hgl5 : Blk w5 gl 27 (es.map Ent.val).toArray := (hgr5.block gl hgll4 (fun e => HGL.out es[i] (List.getElem_mem hlt) e.symm)).trans HG4.out
              have hst5 : ApartSt gl es w5 := ⟨hgl5, fun e he => by
                obtain ⟨m, hm, rfl⟩ := List.getElem_of_mem he
                by_cases hmi : m = i
                · subst hmi; exact hov5
                · exact (HIS4.out m hm hmi).kept hgr5 (fun g hg e => HD.out m i hm hlt hmi g hg e.symm)⟩
              have hB5 := hB4.grown hgr5 (by have := hB4.size; omega) hB0
              have HST5 := Lib.hid hst5
              have HB5 := Lib.hid hB5
              clear d0 hov hov5 hgr5 hgl5 hst5 hB5 hB4
              go_wp2
              go_roundw
              case rel => exact ⟨i + 1, by omega, by go_num, HST5.out, HB5.out⟩
              case measure => simp [intOf]; omega
    · obtain rfl : i = es.length := by omega
      go_wp2
      go_ret
      exact ⟨rfl, hBr⟩
end Go.Proofs.Ytekdcjaljjlemaa

/- The document's function that lays a number of so many bytes. Conditions: the number is below 2^64; at most eight bytes; at most 100000 were laid. -/
namespace Go
open Go.RowKit
theorem grown_alloc {w w' : World} {o : Obj} {row : Option Nat} (h : (w.alloc o).grownBy w' row) : w.grownBy w' row := by
  have h0 := World.grownBy_alloc w o row
  exact ⟨h.1.trans h0.1, h.2.trans h0.2, h.3.trans h0.3, Nat.le_trans h0.4 h.4, fun k hk hr => (h.5 k (Nat.lt_of_lt_of_le hk h0.4) hr).trans (h0.5 k hk hr)⟩
theorem grown_trans {w w1 w' : World} {row r : Option Nat} (h0 : w.grownBy w1 row) (h : w1.grownBy w' r) (hr : r = row ∨ ∃ k, r = some k ∧ w.heap.size ≤ k) : w.grownBy w' row :=
  ⟨h.1.trans h0.1, h.2.trans h0.2, h.3.trans h0.3, Nat.le_trans h0.4 h.4, fun k hk hne => (h.5 k (Nat.lt_of_lt_of_le hk h0.4) (by
    rcases hr with e | ⟨j, e, hj⟩
    · rw [e]; exact hne
    · rw [e]; intro e2; injection e2 with e2; omega)).trans (h0.5 k hk hne)⟩
theorem World.alloc_size (w : World) (o : Obj) : (w.alloc o).heap.size = w.heap.size + 1 := by simp
end Go
namespace Go.Proofs.Ytekdcjaljjlemaa
open Go.RowKit
/-- The number's first bytes, the lowest first. -/
def leb (n s : Nat) : List UInt8 := (le8 n).take s
theorem leb_8 (n : Nat) : leb n 8 = le8 n := List.take_of_length_le (by rw [le8_length]; omega)
theorem leb_4 (n : Nat) (h : n < 4294967296) : leb n 4 = le4 n := by
  unfold leb le8
  rw [Nat.mod_eq_of_lt h, List.take_append_of_le_length (by rw [le4_length]; omega), List.take_of_length_le (by rw [le4_length]; omega)]
theorem leb_length (n s : Nat) (h : s ≤ 8) : (leb n s).length = s := by unfold leb; rw [List.length_take, le8_length]; omega
theorem leb_snoc (n i : Nat) (h : i < 8) : (le8 n).take i ++ [b8 n i] = (le8 n).take (i + 1) := by
  rw [List.take_succ_eq_append_getElem (by rw [le8_length]; omega)]
  have : i = 0 ∨ i = 1 ∨ i = 2 ∨ i = 3 ∨ i = 4 ∨ i = 5 ∨ i = 6 ∨ i = 7 := by omega
  rcases this with rfl | rfl | rfl | rfl | rfl | rfl | rfl | rfl <;> simp [le8_b8]
def PutRel (w0 : World) (base s n : Nat) (l : List UInt8) (row : Option Nat) (v v7 : Value) (wr : World) : Prop :=
  ∃ (i : Nat) (sp : List UInt8), i ≤ s ∧ v7 = .int .i64 (i : Int) ∧ OwnB 5 wr base v (l ++ (le8 n).take i) sp ∧ w0.grownBy wr row ∧ (v.ownBlock = row ∨ ∃ k, v.ownBlock = some k ∧ w0.heap.size ≤ k)
theorem put_next {w0 wr : World} {base s : Nat} {l : List UInt8} {row r : Option Nat} (n i : Nat) (v1 : Value) (w1 : World) (sp1 : List UInt8) (hi : i < s ∧ i < 8) (ho : OwnB 5 w1 base v1 ((l ++ (le8 n).take i) ++ [b8 n i]) sp1)
    (hg : wr.grownBy w1 r) (hw : v1.ownBlock = r ∨ ∃ k, v1.ownBlock = some k ∧ (wr.alloc (.cells #[.int .u8 (iu8 (b8 n i))] 5)).heap.size ≤ k) (hgr : w0.grownBy wr row) (hwv : r = row ∨ ∃ k, r = some k ∧ w0.heap.size ≤ k) :
    PutRel w0 base s n l row v1 (.int .i64 (i + 1 : Nat)) w1 := by
  refine ⟨i + 1, sp1, hi.1, rfl, by rw [List.append_assoc, leb_snoc n i hi.2] at ho; exact ho, grown_trans hgr hg hwv, ?_⟩
  rcases hw with e | ⟨k, e, hk⟩
  · rw [e]; exact hwv
  · rw [World.alloc_size] at hk
    exact .inr ⟨k, e, by have := hgr.size; omega⟩
set_option maxHeartbeats 4000000 in
theorem rput4_any (base : Nat) (v : Value) (l sp : List UInt8) (n s : Nat) (hs : s ≤ 8) (hl : l.length ≤ 100000) (w : World) (hbase : base ≤ w.heap.size) (ho : OwnB 5 w base v l sp) :
    Calls Try.prog 39 #[v, .int .u64 (n : Int), .int .i64 (s : Int)] w fun e w' => ∃ v' sp', e = .returned v' ∧ OwnB 5 w' base v' (l ++ leb n s) sp' ∧ w.grownBy w' v.ownBlock ∧ (v'.ownBlock = v.ownBlock ∨ ∃ k, v'.ownBlock = some k ∧ w.heap.size ≤ k) := by
  go_enter Try.func39, Try.ntmps39
  obtain ⟨row, hrow⟩ : ∃ row, row = v.ownBlock := ⟨_, rfl⟩
  rw [← hrow]
  go_wp2_with fail
  go_loopw [0, 7] (fun v v7 wr => PutRel w base s n l row v v7 wr) (fun _ v _ => s - (intOf v).toNat)
  case atStart => exact ⟨0, sp, by omega, rfl, by simpa using ho, World.grownBy.refl _ _, .inl hrow.symm⟩
  case round =>
    clear ho hrow
    obtain ⟨i, sp, his, rfl, hown, hgr, hwv⟩ := hrel
    by_cases hlt : i < s
    · have hsz := hgr.size
      have hcase : i = 0 ∨ i = 1 ∨ i = 2 ∨ i = 3 ∨ i = 4 ∨ i = 5 ∨ i = 6 ∨ i = 7 := by omega
      rcases hcase with rfl | rfl | rfl | rfl | rfl | rfl | rfl | rfl
      · go_wp2_with (first
          | (show wpList _ _ _ ((⟨some 20, _, _, _, _, _⟩ : Oper) :: _) _ _; rw [b8_0];
              refine wpList_append_bytes (o := ⟨some 20, _, _, _, _, _⟩) (by rfl) _ _ _ (by rfl) base _ Try.underlying27 u8info _ (l ++ (le8 n).take 0) sp (by rfl) (hown.alloc _) (some ⟨wr.heap.size, 0, none⟩) 1 [b8 n 0] (by rfl) (bytes_lit wr _ [b8 n 0]) (by rw [List.length_append, List.length_take, le8_length]; simp; omega) (by rw [World.alloc_size]; omega) ?_; intro v1 w1 sp1 ho1 hg1 hw1 _)
          | fail)
        go_roundw
        case rel => exact put_next n 0 v1 w1 sp1 (by omega) ho1 (grown_alloc hg1) (hw1.imp id fun h => ⟨_, h, Nat.le_refl _⟩) hgr hwv
        case measure => simp [intOf]; omega
      · go_wp2_with (first
          | (show wpList _ _ _ ((⟨some 20, _, _, _, _, _⟩ : Oper) :: _) _ _; rw [b8_1];
              refine wpList_append_bytes (o := ⟨some 20, _, _, _, _, _⟩) (by rfl) _ _ _ (by rfl) base _ Try.underlying27 u8info _ (l ++ (le8 n).take 1) sp (by rfl) (hown.alloc _) (some ⟨wr.heap.size, 0, none⟩) 1 [b8 n 1] (by rfl) (bytes_lit wr _ [b8 n 1]) (by rw [List.length_append, List.length_take, le8_length]; simp; omega) (by rw [World.alloc_size]; omega) ?_; intro v1 w1 sp1 ho1 hg1 hw1 _)
          | fail)
        go_roundw
        case rel => exact put_next n 1 v1 w1 sp1 (by omega) ho1 (grown_alloc hg1) (hw1.imp id fun h => ⟨_, h, Nat.le_refl _⟩) hgr hwv
        case measure => simp [intOf]; omega
      · go_wp2_with (first
          | (show wpList _ _ _ ((⟨some 20, _, _, _, _, _⟩ : Oper) :: _) _ _; rw [b8_2];
              refine wpList_append_bytes (o := ⟨some 20, _, _, _, _, _⟩) (by rfl) _ _ _ (by rfl) base _ Try.underlying27 u8info _ (l ++ (le8 n).take 2) sp (by rfl) (hown.alloc _) (some ⟨wr.heap.size, 0, none⟩) 1 [b8 n 2] (by rfl) (bytes_lit wr _ [b8 n 2]) (by rw [List.length_append, List.length_take, le8_length]; simp; omega) (by rw [World.alloc_size]; omega) ?_; intro v1 w1 sp1 ho1 hg1 hw1 _)
          | fail)
        go_roundw
        case rel => exact put_next n 2 v1 w1 sp1 (by omega) ho1 (grown_alloc hg1) (hw1.imp id fun h => ⟨_, h, Nat.le_refl _⟩) hgr hwv
        case measure => simp [intOf]; omega
      · go_wp2_with (first
          | (show wpList _ _ _ ((⟨some 20, _, _, _, _, _⟩ : Oper) :: _) _ _; rw [b8_3];
              refine wpList_append_bytes (o := ⟨some 20, _, _, _, _, _⟩) (by rfl) _ _ _ (by rfl) base _ Try.underlying27 u8info _ (l ++ (le8 n).take 3) sp (by rfl) (hown.alloc _) (some ⟨wr.heap.size, 0, none⟩) 1 [b8 n 3] (by rfl) (bytes_lit wr _ [b8 n 3]) (by rw [List.length_append, List.length_take, le8_length]; simp; omega) (by rw [World.alloc_size]; omega) ?_; intro v1 w1 sp1 ho1 hg1 hw1 _)
          | fail)
        go_roundw
        case rel => exact put_next n 3 v1 w1 sp1 (by omega) ho1 (grown_alloc hg1) (hw1.imp id fun h => ⟨_, h, Nat.le_refl _⟩) hgr hwv
        case measure => simp [intOf]; omega
      · go_wp2_with (first
          | (show wpList _ _ _ ((⟨some 20, _, _, _, _, _⟩ : Oper) :: _) _ _; rw [b8_4];
              refine wpList_append_bytes (o := ⟨some 20, _, _, _, _, _⟩) (by rfl) _ _ _ (by rfl) base _ Try.underlying27 u8info _ (l ++ (le8 n).take 4) sp (by rfl) (hown.alloc _) (some ⟨wr.heap.size, 0, none⟩) 1 [b8 n 4] (by rfl) (bytes_lit wr _ [b8 n 4]) (by rw [List.length_append, List.length_take, le8_length]; simp; omega) (by rw [World.alloc_size]; omega) ?_; intro v1 w1 sp1 ho1 hg1 hw1 _)
          | fail)
        go_roundw
        case rel => exact put_next n 4 v1 w1 sp1 (by omega) ho1 (grown_alloc hg1) (hw1.imp id fun h => ⟨_, h, Nat.le_refl _⟩) hgr hwv
        case measure => simp [intOf]; omega
      · go_wp2_with (first
          | (show wpList _ _ _ ((⟨some 20, _, _, _, _, _⟩ : Oper) :: _) _ _; rw [b8_5];
              refine wpList_append_bytes (o := ⟨some 20, _, _, _, _, _⟩) (by rfl) _ _ _ (by rfl) base _ Try.underlying27 u8info _ (l ++ (le8 n).take 5) sp (by rfl) (hown.alloc _) (some ⟨wr.heap.size, 0, none⟩) 1 [b8 n 5] (by rfl) (bytes_lit wr _ [b8 n 5]) (by rw [List.length_append, List.length_take, le8_length]; simp; omega) (by rw [World.alloc_size]; omega) ?_; intro v1 w1 sp1 ho1 hg1 hw1 _)
          | fail)
        go_roundw
        case rel => exact put_next n 5 v1 w1 sp1 (by omega) ho1 (grown_alloc hg1) (hw1.imp id fun h => ⟨_, h, Nat.le_refl _⟩) hgr hwv
        case measure => simp [intOf]; omega
      · go_wp2_with (first
          | (show wpList _ _ _ ((⟨some 20, _, _, _, _, _⟩ : Oper) :: _) _ _; rw [b8_6];
              refine wpList_append_bytes (o := ⟨some 20, _, _, _, _, _⟩) (by rfl) _ _ _ (by rfl) base _ Try.underlying27 u8info _ (l ++ (le8 n).take 6) sp (by rfl) (hown.alloc _) (some ⟨wr.heap.size, 0, none⟩) 1 [b8 n 6] (by rfl) (bytes_lit wr _ [b8 n 6]) (by rw [List.length_append, List.length_take, le8_length]; simp; omega) (by rw [World.alloc_size]; omega) ?_; intro v1 w1 sp1 ho1 hg1 hw1 _)
          | fail)
        go_roundw
        case rel => exact put_next n 6 v1 w1 sp1 (by omega) ho1 (grown_alloc hg1) (hw1.imp id fun h => ⟨_, h, Nat.le_refl _⟩) hgr hwv
        case measure => simp [intOf]; omega
      · go_wp2_with (first
          | (show wpList _ _ _ ((⟨some 20, _, _, _, _, _⟩ : Oper) :: _) _ _; rw [b8_7];
              refine wpList_append_bytes (o := ⟨some 20, _, _, _, _, _⟩) (by rfl) _ _ _ (by rfl) base _ Try.underlying27 u8info _ (l ++ (le8 n).take 7) sp (by rfl) (hown.alloc _) (some ⟨wr.heap.size, 0, none⟩) 1 [b8 n 7] (by rfl) (bytes_lit wr _ [b8 n 7]) (by rw [List.length_append, List.length_take, le8_length]; simp; omega) (by rw [World.alloc_size]; omega) ?_; intro v1 w1 sp1 ho1 hg1 hw1 _)
          | fail)
        go_roundw
        case rel => exact put_next n 7 v1 w1 sp1 (by omega) ho1 (grown_alloc hg1) (hw1.imp id fun h => ⟨_, h, Nat.le_refl _⟩) hgr hwv
        case measure => simp [intOf]; omega
    · obtain rfl : i = s := by omega
      have HX := Lib.hid (And.intro hown (And.intro hgr hwv))
      clear hown hgr hwv
      go_wp2
      go_ret
      exact ⟨_, sp, rfl, HX.out⟩
end Go.Proofs.Ytekdcjaljjlemaa

/- append(s, make([]byte, n)...) as the program's text has it: noughts behind an own list. Plain facts over any program. No condition. -/
namespace Go
open Go.RowKit
section
variable {P : Program} (w : World)
theorem run_append_zeros (base : Nat) (t tx ty e : TypeId) (k : IntKind) (i : TypeInfo) (ht : P.underlying t = some (.slice e)) (htx : P.underlying tx = some (.int k)) (hi : P.info? e = some i) (hz : i.zero = some (.int .u8 0))
    (hsize : i.size = 1) (hby : i.bytes = 1) (v : Value) (l sp : List UInt8) (hown : OwnB e w base v l sp) (m : Nat) (h63 : l.length + m ≤ 140737488355328) (hbase : base ≤ w.heap.size) :
    ∃ v' w' sp', (Builtin.append_ #[t, tx] ty #[v, .int .i64 (m : Int)]).run P w = .ok v' w' ∧ OwnB e w' base v' (l ++ List.replicate m 0) sp' ∧ w.grownBy w' v.ownBlock ∧
      (v'.ownBlock = v.ownBlock ∨ v'.ownBlock = some w.heap.size) := by
  have hwr : IntKind.i64.wrap (m : Int) = m := by rw [IntKind.wrap_i64]; omega
  have hzc : ∀ j, Builtin.zeroCells (Value.int .u8 0).cells j = ((List.replicate j (0 : UInt8)).map u8v).toArray := fun j => by
    unfold Builtin.zeroCells
    apply Array.ext_getElem?
    intro a
    rw [List.map_replicate]
    by_cases ha : a < j
    · simp [Value.cells, ha, Nat.mod_one]; rfl
    · simp [Value.cells, ha]
  have hA : ∀ w' : World, (asInt (.int .i64 (m : Int))).run P w' = .ok (m : Int) w' := fun w' => by simp [asInt, asIntOf]
  have hA0 : ∀ w' : World, (asInt (.int .i64 0)).run P w' = .ok 0 w' := fun w' => by simp [asInt, asIntOf]
  have hw0 : IntKind.i64.wrap 0 = 0 := by rw [IntKind.wrap_i64]; omega
  have hi63 : IntKind.i64.wrap (m : Int) = m := hwr
  have n0 : ¬ ((m : Int) < 0) := by omega
  have n1 : ¬ (281474976710656 < (m : Int)) := by omega
  have grown : ∀ (old : Nat) (row : Option Nat),
      OwnB e (w.drew.alloc (.cells ((l.map u8v).toArray ++ ((List.replicate m (0 : UInt8)).map u8v).toArray ++ ((List.replicate (grownCap w (l.length + m) old e - (l.length + m)) (0 : UInt8)).map u8v).toArray) e)) base
        (.slice (some ⟨w.heap.size, 0, none⟩) (l.length + m) (grownCap w (l.length + m) old e)) (l ++ List.replicate m 0) (List.replicate (grownCap w (l.length + m) old e - (l.length + m)) 0) ∧
      w.grownBy (w.drew.alloc (.cells ((l.map u8v).toArray ++ ((List.replicate m (0 : UInt8)).map u8v).toArray ++ ((List.replicate (grownCap w (l.length + m) old e - (l.length + m)) (0 : UInt8)).map u8v).toArray) e)) row := by
    intro old row
    refine ⟨.inr ⟨w.heap.size, _, by simp, hbase, ?_, by simpa using grownCap_ge w (l.length + m) old e, grownCap_le_maxLen w (l.length + m) old e (by unfold maxLen; omega), by simp, by simp⟩, ⟨rfl, rfl, rfl, by simp, fun k (hk : k < w.drew.heap.size) _ => Below.heap_alloc w.drew _ k hk⟩⟩
    refine (Blk.new w.drew e _).sub ?_
    simp
  rcases hown with ⟨rfl, hl0, hx0, hs0⟩ | ⟨g, cap, rfl, hbg, hg, hnc, hcm, hxl, hspl⟩
  · obtain rfl : l = [] := List.eq_nil_of_length_eq_zero hl0
    obtain rfl : sp = [] := by simpa using hs0
    rcases Nat.eq_zero_or_pos m with hm | hm
    · subst hm
      refine ⟨.slice none 0 0, w, [], ?_, OwnsC.nil e 1 w base, World.grownBy.refl w _, .inl rfl⟩
      simp [Builtin.append_, run_underlying ht, run_underlying htx, sizeOf, typeInfo, hi, hA0, hby, hw0]
    · have hgr := grown 0 (Value.ownBlock (.slice none 0 0))
      simp only [List.length_nil, Nat.zero_add] at hgr ⊢
      refine ⟨_, _, _, ?_, hgr.1, hgr.2, .inr rfl⟩
      have h5 : ¬ (m = 0) := by omega
      have h63' : ¬ (9223372036854775807 < (m : Int)) := by omega
      have h48' : ¬ (281474976710656 < Builtin.nextslicecap m 0) := by rw [nextslicecap_zero hm]; omega
      simp [Builtin.append_, run_underlying ht, run_underlying htx, sizeOf, typeInfo, zeroValue, hi, hz, hA, hsize, hby, hwr, n0, n1, h5, h63', h48', Question.forced, run_firstCells_none, newRow, grownCap, hzc]
  · by_cases hroom : l.length + m ≤ cap
    · rcases Nat.eq_zero_or_pos m with hm | hm
      · subst hm
        refine ⟨_, w, sp, ?_, by rw [List.replicate_zero, List.append_nil]; exact .inr ⟨g, cap, rfl, hbg, hg, hnc, hcm, hxl, hspl⟩, World.grownBy.refl w _, .inl rfl⟩
        simp [Builtin.append_, run_underlying ht, run_underlying htx, sizeOf, typeInfo, hi, hA0, hby, hw0, hnc, storeCells]
      · have hspl' : sp.length = cap - l.length := by simpa using hspl
        have hst := run_storeCells_at P g (l.length * 1) e ((List.replicate m (0 : UInt8)).map u8v) 0 ((l.map u8v ++ sp.map u8v).toArray) w hg (by simp; omega) (u8v_one _)
        simp only [Nat.add_zero, Nat.mul_one] at hst
        have h5 : ¬ (m = 0) := by omega
        refine ⟨.slice (some ⟨g, 0, none⟩) (l.length + m) cap, w.setRow g (((l.map u8v ++ sp.map u8v).toArray.toList.take l.length ++ (List.replicate m (0 : UInt8)).map u8v ++ (l.map u8v ++ sp.map u8v).toArray.toList.drop (l.length + ((List.replicate m (0 : UInt8)).map u8v).length)).toArray), sp.drop m, ?_, .inr ⟨g, cap, by simp, hbg, ?_, by simpa using hroom, hcm, by simp, ?_⟩, ⟨rfl, rfl, rfl, by simp, fun k _ hk => setRow_other w g k _ (fun e => hk (by simp [Value.ownBlock, e]))⟩, .inl rfl⟩
        rotate_left
        · refine (Blk.setRow (cs := (l.map u8v ++ sp.map u8v).toArray) hg _).sub ?_
          simp [List.drop_append]
        · simp; omega
        · simp [Builtin.append_, run_underlying ht, run_underlying htx, sizeOf, typeInfo, zeroValue, hi, hz, hA, hsize, hby, hwr, n0, n1, h5, hroom, hzc, Addr.add_lit]
          simp at hst
          rw [hst]
          simp
    · have hgr := grown cap (Value.ownBlock (.slice (some ⟨g, 0, none⟩) l.length cap))
      refine ⟨_, _, _, ?_, hgr.1, hgr.2, .inr rfl⟩
      have h5 : ¬ (m = 0) := by omega
      have h63' : ¬ (9223372036854775807 < ((l.length : Int) + (m : Int))) := by omega
      have h48' : ¬ (281474976710656 < Builtin.nextslicecap (l.length + m) cap) := by
        have := growslice_fits (need := l.length + m) (old := cap) (bytes := 1) (by omega) (by omega)
        omega
      have hfo := run_firstCells_some (P := P) w.drew 1 l.length ⟨g, 0, none⟩ l.length cap (l.map u8v) (by simp) (fun j u hu => by
        rw [Addr.add_lit, Nat.zero_add]
        have : w.cell? ⟨g, j, none⟩ = some u := by
          rw [Blk.cell hg]
          simp only [List.getElem?_toArray]
          rw [List.getElem?_append_left (List.getElem?_eq_some_iff.1 hu).1]; exact hu
        exact this)
      simp [Builtin.append_, run_underlying ht, run_underlying htx, sizeOf, typeInfo, zeroValue, hi, hz, hA, hsize, hby, hwr, n0, n1, h5, hroom, h63', h48', Question.forced, hfo, newRow, grownCap, hzc]
theorem wpList_append_zeros {w : World} {ops : Array Oper} {rest : List Oper} {o : Oper} {a : Act} {Q : Exit → Act → World → Prop} (hgd : o.guard = none) (s x : Operand) (t tx : TypeId)
    (ho : o.op = .call { callee := .builtin .append, args := #[s, x], argTypes := #[t, tx] })
    (base : Nat) (e : TypeId) (k : IntKind) (ht : P.underlying t = some (.slice e)) (htx : P.underlying tx = some (.int k)) (hi : (P.info? e).map (fun i => (i.zero, i.size, i.bytes)) = some (some (.int .u8 0), 1, 1))
    (v : Value) (l sp : List UInt8) (hs : a.eval s = v) (hown : OwnB e w base v l sp) (m : Nat) (hx : a.eval x = .int .i64 (m : Int)) (hlen : l.length + m ≤ 140737488355328) (hbase : base ≤ w.heap.size)
    (h : ∀ v' w' sp', OwnB e w' base v' (l ++ List.replicate m 0) sp' → w.grownBy w' v.ownBlock → (v'.ownBlock = v.ownBlock ∨ v'.ownBlock = some w.heap.size) → wpList P ops Q rest (a.put o.dst v') w') : wpList P ops Q (o :: rest) a w := by
  obtain ⟨i, hi0, hz, hsize, hby⟩ := info_parts hi
  obtain ⟨v', w', sp', hrun, h2, h3, h4⟩ := run_append_zeros (P := P) w base t tx o.type e k i ht htx hi0 hz hsize hby v l sp hown m hlen hbase
  refine wpList_plain hgd fun _ hK => ?_
  unfold Oper.wp execOp
  simp only [ho, resolve, invoke, builtin, Sem.run_bind, Sem.run_pure, Result.andThen_ok, List.map_toArray, List.map_cons, List.map_nil, hs, hx, hrun]
  exact hK _ _ (h v' w' sp' h2 h3 h4)
end
end Go
