/- How an argument of plain data comes in, whatever its type: its shape (numbers, bools, strings, slices, arrays, structs), what it says, which cells it has. Plain facts over any program. No condition. -/
import Derived.Test.YtkjcidbhepminaaDoorKeep
import Derived.ProofKit
import Derived.OpenShut
import Derived.Deep.Slices
namespace Go
open Go.ChangeShapes Go.WideShapes Go.RowKit
/-- A type's shape; a struct is its fields, one behind the other. -/
inductive Sh where
  | int (k : IntKind)
  | byte
  | bool
  | str
  | slice (e : Sh)
  | arr (n : Nat) (e : Sh)
  | nil
  | cons (f r : Sh)
def Sh.size : Sh → Nat
  | .int _ => 1
  | .byte => 1
  | .bool => 1
  | .str => 1
  | .slice _ => 1
  | .arr n e => n * e.size
  | .nil => 0
  | .cons f r => f.size + r.size
/-- What a value of a shape says. -/
def Sh.T : Sh → Type
  | .int _ => Int
  | .byte => UInt8
  | .bool => Bool
  | .str => ByteArray
  | .slice e => List e.T
  | .arr _ e => List e.T
  | .nil => Unit
  | .cons f r => f.T × r.T
/-- Two lists, place by place. -/
def Both {α β : Type} (R : α → β → Prop) : List α → List β → Prop
  | [], [] => True
  | a :: l, b :: m => R a b ∧ Both R l m
  | _, _ => False
theorem Both.imp {α β : Type} {R S : α → β → Prop} (h : ∀ a b, R a b → S a b) : ∀ {l : List α} {m : List β}, Both R l m → Both S l m
  | [], [], _ => trivial
  | _ :: _, _ :: _, ⟨h1, h2⟩ => ⟨h _ _ h1, Both.imp h h2⟩
theorem Both.length {α β : Type} {R : α → β → Prop} : ∀ {l : List α} {m : List β}, Both R l m → l.length = m.length
  | [], [], _ => rfl
  | _ :: _, _ :: _, ⟨_, h2⟩ => by simp [Both.length h2]
theorem Both.make {α β : Type} {R : α → β → Prop} : ∀ (m : List β), (∀ b, b ∈ m → ∃ a, R a b) → ∃ l, Both R l m
  | [], _ => ⟨[], trivial⟩
  | b :: m, h => by
    obtain ⟨a, ha⟩ := h b (by simp)
    obtain ⟨l, hl⟩ := Both.make m (fun x hx => h x (by simp [hx]))
    exact ⟨a :: l, ha, hl⟩
/-- The cells of a value of this shape. -/
def Sh.Is (w : World) : (s : Sh) → s.T → List Value → Prop
  | .int k => fun (x : Int) cs => cs = [.int k x] ∧ k.min ≤ x ∧ x ≤ k.max
  | .byte => fun (b : UInt8) cs => cs = [u8v b]
  | .bool => fun (b : Bool) cs => cs = [.bool b]
  | .str => fun (s : ByteArray) cs => cs = [.string s] ∧ s.size ≤ maxLen
  | .slice e => fun (l : List e.T) cs => ∃ A c rows, cs = [.slice A l.length c] ∧ l.length ≤ c ∧ c ≤ maxLen ∧ Both (fun d r => r.length = e.size ∧ Sh.Is w e d r) l rows ∧ Reads w A rows.flatten
  | .arr n e => fun (l : List e.T) cs => l.length = n ∧ ∃ rows, cs = rows.flatten ∧ Both (fun d r => r.length = e.size ∧ Sh.Is w e d r) l rows
  | .nil => fun _ cs => cs = []
  | .cons f r => fun (d : f.T × r.T) cs => ∃ c1 c2, cs = c1 ++ c2 ∧ c1.length = f.size ∧ Sh.Is w f d.1 c1 ∧ Sh.Is w r d.2 c2
theorem Sh.Is.below {w w' : World} (hb : Below w.heap.size w w') : ∀ (s : Sh) (d : s.T) (cs : List Value), s.Is w d cs → s.Is w' d cs
  | .int _, _, _, h => h
  | .byte, _, _, h => h
  | .bool, _, _, h => h
  | .str, _, _, h => h
  | .slice e, _, _, h => by
    obtain ⟨A, c, rows, h1, h2, h3, h4, h5⟩ := h
    exact ⟨A, c, rows, h1, h2, h3, h4.imp fun a b hh => ⟨hh.1, Sh.Is.below hb e a b hh.2⟩, h5.below hb⟩
  | .arr _ e, _, _, h => by
    obtain ⟨h0, rows, h1, h4⟩ := h
    exact ⟨h0, rows, h1, h4.imp fun a b hh => ⟨hh.1, Sh.Is.below hb e a b hh.2⟩⟩
  | .nil, _, _, h => h
  | .cons f r, _, _, h => by
    obtain ⟨c1, c2, h1, h2, h3, h4⟩ := h
    exact ⟨c1, c2, h1, h2, Sh.Is.below hb f _ _ h3, Sh.Is.below hb r _ _ h4⟩
instance {w w' : World} {s : Sh} {d : s.T} {cs : List Value} : KeepsTo w w' (s.Is w d cs) (s.Is w' d cs) := ⟨fun hb h => Sh.Is.below hb s d cs h⟩
theorem Sh.Is.length {w : World} : ∀ (s : Sh) (d : s.T) (cs : List Value), s.Is w d cs → cs.length = s.size
  | .int _, _, _, h => by rw [h.1]; rfl
  | .byte, _, _, h => by rw [h]; rfl
  | .bool, _, _, h => by rw [h]; rfl
  | .str, _, _, h => by rw [h.1]; rfl
  | .slice e, _, _, h => by
    obtain ⟨A, c, rows, h1, _⟩ := h
    rw [h1]; rfl
  | .arr n e, _, _, h => by
    obtain ⟨h0, rows, rfl, h4⟩ := h
    have key : ∀ (l : List e.T) (rows : List (List Value)), Both (fun d r => r.length = e.size ∧ Sh.Is w e d r) l rows → rows.flatten.length = l.length * e.size := by
      intro l
      induction l with
      | nil => intro rows h; cases rows with
        | nil => simp
        | cons _ _ => exact h.elim
      | cons a l ih => intro rows h; cases rows with
        | nil => exact h.elim
        | cons r rows => simp only [List.flatten_cons, List.length_append, h.1.1, ih rows h.2, List.length_cons]; rw [Nat.add_mul]; omega
    rw [key _ _ h4, h0]; rfl
  | .nil, _, _, h => by rw [h]; rfl
  | .cons f r, _, _, h => by
    obtain ⟨c1, c2, rfl, h2, h3, h4⟩ := h
    rw [List.length_append, h2, Sh.Is.length r _ _ h4]; rfl
/-- Does a type of the program have this shape (first); are these the fields from this cell on (second)? -/
def Sh.fits (P : Program) : Sh → (TypeId → Bool) × (List Field → Nat → Bool)
  | .int k => (fun t => match P.underlying t with | some (.int j) => j == k | _ => false, fun _ _ => false)
  | .byte => (fun t => match P.underlying t with | some (.int j) => j == .u8 | _ => false, fun _ _ => false)
  | .bool => (fun t => match P.underlying t with | some .bool => true | _ => false, fun _ _ => false)
  | .str => (fun t => match P.underlying t with | some .string => true | _ => false, fun _ _ => false)
  | .slice e => (fun t => match P.underlying t with | some (.slice u) => (e.fits P).1 u && P.cellsOf u == e.size | _ => false, fun _ _ => false)
  | .arr n e => (fun t => match P.underlying t with | some (.array m u) => m == n && (e.fits P).1 u && P.cellsOf u == e.size && P.cellsOf t == n * e.size | _ => false, fun _ _ => false)
  | .nil => (fun t => match P.underlying t with | some (.struct fs) => fs.toList.isEmpty && P.cellsOf t == 0 | _ => false, fun fs _ => fs.isEmpty)
  | .cons f r => (fun t => match P.underlying t with
      | some (.struct fs) => (match fs.toList with | fd :: rest => fd.offset == 0 && P.cellsOf fd.type == f.size && (f.fits P).1 fd.type && (r.fits P).2 rest f.size | [] => false) && P.cellsOf t == f.size + r.size
      | _ => false,
    fun fs off => match fs with | fd :: rest => fd.offset == off && P.cellsOf fd.type == f.size && (f.fits P).1 fd.type && (r.fits P).2 rest (off + f.size) | [] => false)
section
variable {H : Type} {enc : TypeId × Value → H} {P : Program} {w : World} {base : Nat} {spare : Nat → Bool} {held : Bool}
/-- What each field reads as is known. -/
def FieldsRead (enc : TypeId × Value → H) (P : Program) (w : World) (base : Nat) (spare : Nat → Bool) (held : Bool) (n : Nat) (fs : List Field) (cs : List Value) : Prop :=
  ∀ f, f ∈ fs → ∃ x, DataW.trod enc P w base spare held n f.type ((cs.drop f.offset).take (P.cellsOf f.type)) = some x
theorem wf_u8' {z : Int} (h : (Lit.int .u8 z).wf = true) : Value.int .u8 z = u8v (UInt8.ofNat z.toNat) := by
  simp [Lit.wf, IntKind.min, IntKind.max, IntKind.signed, IntKind.bits] at h
  unfold u8v
  rw [iu8_ofNat _ (by omega)]
  congr 1
  omega
theorem wf_bounds {k : IntKind} {n : Int} (h : (Lit.int k n).wf = true) : k.min ≤ n ∧ n ≤ k.max := by
  simpa [Lit.wf] using h
theorem Sh.opened : ∀ s : Sh, (∀ (t : TypeId) (fuel : Nat) (cs : List Value) (x : DataW H × List MemPlace), (s.fits P).1 t = true → DataW.trod enc P w base spare held fuel t cs = some x → ∃ d : s.T, s.Is w d cs) ∧
    (∀ (fs : List Field) (off n : Nat) (cs : List Value), (s.fits P).2 fs off = true → cs.length = off + s.size → FieldsRead enc P w base spare held n fs cs → ∃ d : s.T, s.Is w d (cs.drop off)) := by
  have none2 : ∀ (fs : List Field) (off : Nat), (fun (_ : List Field) (_ : Nat) => false) fs off = true → False := fun _ _ h => by cases h
  intro s
  induction s with
  | int k =>
    refine ⟨fun t fuel cs x hf h => ?_, fun fs off n cs hf => (none2 fs off hf).elim⟩
    simp only [Sh.fits] at hf
    split at hf
    · rename_i j hu
      obtain rfl : j = k := by simpa using hf
      obtain ⟨n, rfl, _, hw⟩ := DataW.trod_int hu h
      exact ⟨n, rfl, wf_bounds hw⟩
    · cases hf
  | byte =>
    refine ⟨fun t fuel cs x hf h => ?_, fun fs off n cs hf => (none2 fs off hf).elim⟩
    simp only [Sh.fits] at hf
    split at hf
    · rename_i j hu
      obtain rfl : j = .u8 := by simpa using hf
      obtain ⟨n, rfl, _, hw⟩ := DataW.trod_int hu h
      exact ⟨UInt8.ofNat n.toNat, by rw [wf_u8' hw]; rfl⟩
    · cases hf
  | bool =>
    refine ⟨fun t fuel cs x hf h => ?_, fun fs off n cs hf => (none2 fs off hf).elim⟩
    simp only [Sh.fits] at hf
    split at hf
    · rename_i hu
      obtain ⟨b, rfl, _⟩ := DataW.trod_bool hu h
      exact ⟨b, rfl⟩
    · cases hf
  | str =>
    refine ⟨fun t fuel cs x hf h => ?_, fun fs off n cs hf => (none2 fs off hf).elim⟩
    simp only [Sh.fits] at hf
    split at hf
    · rename_i hu
      obtain ⟨b, rfl, _, hm⟩ := DataW.trod_string hu h
      exact ⟨b, rfl, hm⟩
    · cases hf
  | slice e ih =>
    refine ⟨fun t fuel cs x hf h => ?_, fun fs off n cs hf => (none2 fs off hf).elim⟩
    simp only [Sh.fits] at hf
    split at hf
    · rename_i u hu
      simp only [Bool.and_eq_true, beq_iff_eq] at hf
      rcases Go.Deep.open_slice hu h with ⟨rfl, _⟩ | ⟨a, len, cap, m, n, D, Pl, rfl, _, hl, hm, hmm, _, hi⟩
      · exact ⟨([] : List e.T), none, 0, [], rfl, Nat.le_refl _, by simp [maxLen], trivial, Reads.nil _ _⟩
      · have hlm : len ≤ m := by rw [hmm]; split <;> omega
        rw [hf.2] at hi
        -- the rows, one an element
        have hrow : ∀ i, i < len → ∃ r : List Value, r.length = e.size ∧ (∃ d, e.Is w d r) ∧ ∀ j, j < e.size → w.cell? (a.add (i * e.size + j)) = r[j]? := fun i hil => by
          obtain ⟨r, h1, h2⟩ := hi i (by omega)
          obtain ⟨_, hlen, hc⟩ := World.cells?_some h1
          exact ⟨r, hlen, ih.1 u n r _ hf.1 h2, fun j hj => by rw [← hc j hj, Go.Deep.add_add]⟩
        have hrows : ∃ rows : List (List Value), rows.length = len ∧ ∀ i r, rows[i]? = some r → r.length = e.size ∧ (∃ d, e.Is w d r) ∧ ∀ j, j < e.size → w.cell? (a.add (i * e.size + j)) = r[j]? := by
          clear hi hmm hl hm
          have : ∀ k, k ≤ len → ∃ rows : List (List Value), rows.length = k ∧ ∀ i r, rows[i]? = some r → r.length = e.size ∧ (∃ d, e.Is w d r) ∧ ∀ j, j < e.size → w.cell? (a.add (i * e.size + j)) = r[j]? := by
            intro k
            induction k with
            | zero => exact fun _ => ⟨[], rfl, fun i r h => by simp at h⟩
            | succ k ihk =>
              intro hk
              obtain ⟨rows, h1, h2⟩ := ihk (by omega)
              obtain ⟨r, hr⟩ := hrow k (by omega)
              refine ⟨rows ++ [r], by simp [h1], fun i r' h' => ?_⟩
              rcases Nat.lt_or_ge i k with hlt | hge
              · rw [List.getElem?_append_left (by omega)] at h'; exact h2 i r' h'
              · rw [List.getElem?_append_right (by omega)] at h'
                rcases Nat.eq_or_lt_of_le hge with heq | hlt
                · subst heq; rw [h1] at h'; simp at h'; subst h'; exact hr
                · rw [List.getElem?_eq_none (by simp; omega)] at h'; cases h'
          exact this len (Nat.le_refl _)
        obtain ⟨rows, hrl, hr⟩ := hrows
        obtain ⟨l, hb⟩ := Both.make (R := fun d r => r.length = e.size ∧ Sh.Is w e d r) rows (fun r hmem => by
          obtain ⟨i, hil, rfl⟩ := List.mem_iff_getElem.1 hmem
          obtain ⟨h1, ⟨d, h2⟩, _⟩ := hr i rows[i] (List.getElem?_eq_getElem hil)
          exact ⟨d, h1, h2⟩)
        have hll : l.length = len := by rw [hb.length, hrl]
        refine ⟨l, some a, cap, rows, by rw [hll], by omega, hm, hb, fun hne => ?_⟩
        -- flattened
        have hflat : ∀ (rows : List (List Value)) (k : Nat), (∀ i r, rows[i]? = some r → r.length = e.size ∧ ∀ j, j < e.size → w.cell? (a.add ((k + i) * e.size + j)) = r[j]?) →
            ∀ j v, rows.flatten[j]? = some v → w.cell? (a.add (k * e.size + j)) = some v := by
          intro rows
          induction rows with
          | nil => intro k _ j v h; simp at h
          | cons r rows ihr =>
            intro k hk j v hv
            obtain ⟨h1, h2⟩ := hk 0 r rfl
            simp only [List.flatten_cons] at hv
            rcases Nat.lt_or_ge j r.length with hlt | hge
            · rw [List.getElem?_append_left hlt] at hv
              have := h2 j (by omega)
              rw [Nat.add_zero] at this; rw [this, hv]
            · rw [List.getElem?_append_right hge] at hv
              have := ihr (k + 1) (fun i r' h' => by
                have := hk (i + 1) r' (by simpa using h')
                rw [show k + 1 + i = k + (i + 1) by omega]; exact this) (j - r.length) v hv
              rw [← this]; congr 2; rw [Nat.add_mul, h1]; omega
        have hcells := hflat rows 0 (fun i r h' => ⟨(hr i r h').1, by simpa using (hr i r h').2.2⟩)
        obtain ⟨v0, hv0⟩ : ∃ v, rows.flatten[0]? = some v := by
          cases hfl : rows.flatten with
          | nil => exact absurd hfl hne
          | cons v _ => exact ⟨v, rfl⟩
        have h00 := hcells 0 v0 hv0
        obtain ⟨ab, ao, spot⟩ := a
        have hspot : spot = none := by simpa [Addr.add] using World.cell?_spot h00
        subst hspot
        refine ⟨ab, ao, rfl, fun j v hv => ?_⟩
        have := hcells j v hv
        simpa [Addr.add_lit] using this
    · cases hf
  | arr n e ih =>
    refine ⟨fun t fuel cs x hf h => ?_, fun fs off n cs hf => (none2 fs off hf).elim⟩
    simp only [Sh.fits] at hf
    split at hf
    · rename_i m u hu
      simp only [Bool.and_eq_true, beq_iff_eq] at hf
      obtain ⟨⟨⟨rfl, hfe⟩, hce⟩, hct⟩ := hf
      obtain ⟨xs, k, _, _, hlen, hxl, hi⟩ := DataW.trod_array hu h
      rw [hce] at hi
      rw [hct] at hlen
      have key : ∀ (k2 : Nat) (cs : List Value), cs.length = k2 * e.size → (∀ i, i < k2 → ∃ d, e.Is w d ((cs.drop (i * e.size)).take e.size)) → ∃ l : List e.T, l.length = k2 ∧ ∃ rows : List (List Value), cs = rows.flatten ∧ Both (fun d r => r.length = e.size ∧ Sh.Is w e d r) l rows := by
        intro k2
        induction k2 with
        | zero => intro cs hl _; exact ⟨[], rfl, [], by rw [Nat.zero_mul] at hl; simpa using hl, trivial⟩
        | succ k2 ihk =>
          intro cs hl hall
          have hle : e.size ≤ cs.length := by rw [hl, Nat.add_mul]; omega
          obtain ⟨d, hd⟩ := hall 0 (by omega)
          obtain ⟨l, hll, rows, hr, hb⟩ := ihk (cs.drop e.size) (by rw [List.length_drop, hl, Nat.add_mul]; omega) (fun i hik => by
            have := hall (i + 1) (by omega)
            rw [List.drop_drop]
            rw [show e.size + i * e.size = (i + 1) * e.size by rw [Nat.add_mul]; omega]; exact this)
          refine ⟨d :: l, by simp [hll], cs.take e.size :: rows, by rw [List.flatten_cons, ← hr, List.take_append_drop], ⟨by rw [List.length_take]; omega, by simpa using hd⟩, hb⟩
      obtain ⟨l, h1, h2⟩ := key m cs hlen (fun i him => by
        have := hi i him
        rw [List.getElem?_eq_getElem (by omega)] at this
        exact ih.1 u k _ _ hfe this)
      exact ⟨l, h1, h2⟩
    · cases hf
  | nil =>
    refine ⟨fun t fuel cs x hf h => ?_, fun fs off n cs hf hl hr => ?_⟩
    · simp only [Sh.fits] at hf
      split at hf
      · rename_i fs hu
        simp only [Bool.and_eq_true, beq_iff_eq] at hf
        obtain ⟨xs, k, _, _, hlen, _⟩ := DataW.trod_struct hu h
        rw [hf.2] at hlen
        exact ⟨(), List.eq_nil_of_length_eq_zero hlen⟩
      · cases hf
    · refine ⟨(), ?_⟩
      simp only [Sh.size, Nat.add_zero] at hl
      show cs.drop off = []
      rw [← hl]; simp
  | cons f r ihf ihr =>
    have key : ∀ (fs : List Field) (off n : Nat) (cs : List Value), ((Sh.cons f r).fits P).2 fs off = true → cs.length = off + (Sh.cons f r).size → FieldsRead enc P w base spare held n fs cs → ∃ d : (Sh.cons f r).T, (Sh.cons f r).Is w d (cs.drop off) := by
      intro fs off n cs hf hl hr
      simp only [Sh.fits] at hf
      simp only [Sh.size] at hl
      cases fs with
      | nil => cases hf
      | cons fd rest =>
        simp only [Bool.and_eq_true, beq_iff_eq] at hf
        obtain ⟨⟨⟨h1, h2⟩, h3⟩, h4⟩ := hf
        obtain ⟨x, hx⟩ := hr fd (by simp)
        rw [h1, h2] at hx
        obtain ⟨d1, hd1⟩ := ihf.1 fd.type n _ x h3 hx
        obtain ⟨d2, hd2⟩ := ihr.2 rest (off + f.size) n cs h4 (by omega) (fun f' h' => hr f' (by simp [h']))
        refine ⟨(d1, d2), (cs.drop off).take f.size, cs.drop (off + f.size), ?_, ?_, hd1, hd2⟩
        · rw [← List.drop_drop, List.take_append_drop]
        · rw [List.length_take, List.length_drop]; omega
    refine ⟨fun t fuel cs x hf h => ?_, key⟩
    simp only [Sh.fits] at hf
    split at hf
    · rename_i fs hu
      simp only [Bool.and_eq_true, beq_iff_eq] at hf
      obtain ⟨xs, n, _, _, hlen, hxl, hi⟩ := DataW.trod_struct hu h
      rw [hf.2] at hlen
      have := key fs.toList 0 n cs (by simp only [Sh.fits]; split at hf <;> simp_all) (by simp only [Sh.size]; omega) (fun f' h' => by
        obtain ⟨i, hil, rfl⟩ := List.mem_iff_getElem.1 h'
        have := hi i fs.toList[i] (by simp)
        have hix : i < xs.length := by rw [hxl]; simpa using hil
        rw [List.getElem?_eq_getElem hix] at this
        exact ⟨_, this⟩)
      simpa using this
    · cases hf
/-- An argument: its cells and what they say. -/
theorem Sh.open_ (s : Sh) {t : TypeId} {v : Value} {d : DataW H} {p : List MemPlace} (hf : (s.fits P).1 t = true) (h : DataW.Trod enc P w base spare held t v d p) : ∃ x : s.T, s.Is w x v.cells.toList := by
  obtain ⟨fuel, h⟩ := h
  exact (Sh.opened s).1 t fuel v.cells.toList _ hf h
end
/-! ### What it comes to for the shapes that are met most -/
theorem both_bytes {w : World} : ∀ {l : List UInt8} {rows : List (List Value)}, Both (fun (d : UInt8) r => r.length = 1 ∧ Sh.Is w .byte d r) l rows → rows.flatten = l.map u8v
  | [], [], _ => rfl
  | a :: l, r :: rows, ⟨h1, h2⟩ => by
    have hr : r = [u8v a] := h1.2
    rw [List.flatten_cons, hr, both_bytes h2]; rfl
theorem Sh.Is.bytes {w : World} {l : List UInt8} {cs : List Value} (h : (Sh.slice .byte).Is w l cs) : ∃ A c, cs = [.slice A l.length c] ∧ l.length ≤ c ∧ c ≤ 9223372036854775807 ∧ Bytes w A l := by
  obtain ⟨A, c, rows, h1, h2, h3, h4, h5⟩ := h
  refine ⟨A, c, h1, h2, by simpa [maxLen] using h3, ?_⟩
  unfold Bytes
  rw [← both_bytes h4]; exact h5
theorem Sh.Is.arrBytes {w : World} {n : Nat} {l : List UInt8} {cs : List Value} (h : (Sh.arr n .byte).Is w l cs) : l.length = n ∧ cs = l.map u8v := by
  obtain ⟨h0, rows, h1, h4⟩ := h
  exact ⟨h0, by rw [h1, both_bytes h4]⟩
theorem vcell {v x : Value} (h : v.cells.toList = [x]) (hx : ∀ cs, v ≠ .agg cs) : v = x := by
  cases v
  case agg cs => exact absurd rfl (hx cs)
  all_goals (simp [Value.cells] at h; exact h)
/-- The rows of a slice's elements, of one size each, one by one. -/
theorem both_at {α : Type} {R : α → List Value → Prop} {k : Nat} : ∀ {l : List α} {rows : List (List Value)}, Both (fun d r => r.length = k ∧ R d r) l rows → ∀ (i : Nat) (hi : i < l.length), ∃ r, r.length = k ∧ R l[i] r ∧ ∀ j, j < k → rows.flatten[i * k + j]? = r[j]?
  | [], _, _, i, hi => absurd hi (by simp)
  | a :: l, [], h, _, _ => h.elim
  | a :: l, r :: rows, ⟨h1, h2⟩, 0, _ => ⟨r, h1.1, h1.2, fun j hj => by
      rw [List.flatten_cons, Nat.zero_mul, Nat.zero_add, List.getElem?_append_left (by omega)]⟩
  | a :: l, r :: rows, ⟨h1, h2⟩, i + 1, hi => by
    obtain ⟨r', e1, e2, e3⟩ := both_at h2 i (by simpa using hi)
    refine ⟨r', e1, by simpa using e2, fun j hj => ?_⟩
    rw [List.flatten_cons, List.getElem?_append_right (by rw [h1.1, Nat.add_mul]; omega), ← e3 j hj]
    congr 1
    rw [h1.1, Nat.add_mul]; omega
end Go
