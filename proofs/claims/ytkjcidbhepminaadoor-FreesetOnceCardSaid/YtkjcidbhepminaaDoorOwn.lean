/- Slices: one that is only read, and one that the call itself has made, its spare room known too; append onto it. Plain facts over any program. No condition. -/
import Derived.Test.YtkjcidbhepminaaDoorCore
import Derived.Laws.OwnMore
namespace Go
open Go.RowKit

def u32v (x : UInt32) : Value := .int .u32 (iu32 x)
def u8v (x : UInt8) : Value := .int .u8 (iu8 x)

/-! ### A slice that is read: n cells from its head on -/
/-- The cells from the address on are xs; an empty list asks nothing of the address. -/
def Reads (w : World) (A : Option Addr) (xs : List Value) : Prop :=
  xs ≠ [] → ∃ b off, A = some ⟨b, off, none⟩ ∧ ∀ j v, xs[j]? = some v → w.cell? ⟨b, off + j, none⟩ = some v
def Bytes (w : World) (A : Option Addr) (l : List UInt8) : Prop := Reads w A (l.map u8v)
section
variable {w w' : World} {A : Option Addr} {xs : List Value}
theorem Reads.nil (w : World) (A : Option Addr) : Reads w A [] := fun h => absurd rfl h
theorem Reads.keep (h : Reads w A xs) (hk : ∀ p : Addr, p.block < w.heap.size → w'.cell? p = w.cell? p) : Reads w' A xs := fun hn => by
  obtain ⟨b, off, e, hc⟩ := h hn
  refine ⟨b, off, e, fun j v hv => ?_⟩
  have h1 := hc j v hv
  rw [hk _ (World.block_lt_of_cell? w _ h1)]; exact h1
theorem Reads.below (h : Reads w A xs) (hb : Below w.heap.size w w') : Reads w' A xs := h.keep fun _ hp => hb.cell hp
theorem Reads.drewN (h : Reads w A xs) (n : Nat) : Reads (w.drewN n) A xs := h
theorem Reads.drop (h : Reads w A xs) {k cap : Nat} (hc : k < cap ∨ xs.length ≤ k) : Reads w (if cap = k then A else A.map (·.add k)) (xs.drop k) := fun hn => by
  have hlt : k < xs.length := by
    rcases Nat.lt_or_ge k xs.length with h1 | h1
    · exact h1
    · exact absurd (List.drop_eq_nil_of_le h1) hn
  obtain ⟨b, off, rfl, hcell⟩ := h (by intro e; rw [e] at hlt; simp at hlt)
  rw [if_neg (by omega)]
  refine ⟨b, off + k, by simp [Addr.add_lit], fun j v hv => ?_⟩
  rw [List.getElem?_drop] at hv
  rw [Nat.add_assoc]; exact hcell _ v hv
theorem Reads.take (h : Reads w A xs) (k : Nat) : Reads w A (xs.take k) := fun hn => by
  obtain ⟨b, off, e, hc⟩ := h (by intro e; subst e; simp at hn)
  refine ⟨b, off, e, fun j v hv => hc j v ?_⟩
  rw [List.getElem?_take] at hv
  split at hv
  · exact hv
  · cases hv
end
theorem Bytes.at_ {w : World} {A : Option Addr} {l : List UInt8} (h : Bytes w A l) (hn : 0 < l.length) : ∃ b off, A = some ⟨b, off, none⟩ ∧ b < w.heap.size ∧ ∀ j, j < l.length → w.cell? ⟨b, off + j, none⟩ = some (.int .u8 (iu8 (l.getD j 0))) := by
  obtain ⟨b, off, e, hc⟩ := h (by intro e; simp at e; subst e; simp at hn)
  have hcell : ∀ j, j < l.length → w.cell? ⟨b, off + j, none⟩ = some (.int .u8 (iu8 (l.getD j 0))) := fun j hj => hc j _ (by simp [hj, u8v])
  exact ⟨b, off, e, World.block_lt_of_cell? w _ (hcell 0 hn), hcell⟩
theorem Bytes.drop {w : World} {A : Option Addr} {l : List UInt8} (h : Bytes w A l) {k cap : Nat} (hc : k < cap ∨ l.length ≤ k) : Bytes w (if cap = k then A else A.map (·.add k)) (l.drop k) := by
  have := Reads.drop h (k := k) (cap := cap) (by simpa using hc)
  rwa [← List.map_drop] at this
theorem Bytes.take {w : World} {A : Option Addr} {l : List UInt8} (h : Bytes w A l) (k : Nat) : Bytes w A (l.take k) := by
  have := Reads.take h k
  rwa [← List.map_take] at this

/-! ### A slice that the call has made -/
/-- The slice value v, of n elements of type e ('size' cells each), begins at the head of a block from 'base' on whose cells are xs and, behind them, sp; or it is nil. -/
def OwnsC (e : TypeId) (size : Nat) (w : World) (base : Nat) (v : Value) (n : Nat) (xs sp : List Value) : Prop :=
  (v = .slice none 0 0 ∧ n = 0 ∧ xs = [] ∧ sp = []) ∨
  ∃ g cap, v = .slice (some ⟨g, 0, none⟩) n cap ∧ base ≤ g ∧ Blk w g e (xs ++ sp).toArray ∧ n ≤ cap ∧ cap ≤ maxLen ∧ xs.length = n * size ∧ sp.length = (cap - n) * size
section
variable {e : TypeId} {size base n : Nat} {w w' : World} {v : Value} {xs sp : List Value}
theorem OwnsC.nil (e : TypeId) (size : Nat) (w : World) (base : Nat) : OwnsC e size w base (.slice none 0 0) 0 [] [] := .inl ⟨rfl, rfl, rfl, rfl⟩
theorem OwnsC.length (h : OwnsC e size w base v n xs sp) : xs.length = n * size := by
  rcases h with ⟨_, rfl, rfl, _⟩ | ⟨g, cap, _, _, _, _, _, h, _⟩
  · simp
  · exact h
theorem OwnsC.lt (h : OwnsC e size w base v n xs sp) : ∀ k, v.ownBlock = some k → base ≤ k ∧ k < w.heap.size := by
  intro k hk
  rcases h with ⟨rfl, _⟩ | ⟨g, cap, rfl, hb, hg, _⟩
  · simp [Value.ownBlock] at hk
  · simp [Value.ownBlock] at hk; subst hk; exact ⟨hb, hg.lt⟩
theorem OwnsC.kept {row : Option Nat} (h : OwnsC e size w base v n xs sp) (hg : w.grownBy w' row) (hne : v.ownBlock = none ∨ v.ownBlock ≠ row) : OwnsC e size w' base v n xs sp := by
  rcases h with h | ⟨g, cap, rfl, hb, hgg, rest⟩
  · exact .inl h
  · exact .inr ⟨g, cap, rfl, hb, (hg.block g hgg.lt (by simpa [Value.ownBlock] using hne)).trans hgg, rest⟩
theorem OwnsC.below {B : Nat} (h : OwnsC e size w base v n xs sp) (hb : Below B w w') (hlt : ∀ k, v.ownBlock = some k → k < B) : OwnsC e size w' base v n xs sp := by
  rcases h with h | ⟨g, cap, rfl, hbb, hgg, rest⟩
  · exact .inl h
  · exact .inr ⟨g, cap, rfl, hbb, hgg.below hb (hlt g rfl), rest⟩
theorem OwnsC.ownBelow (h : OwnsC e size w base v n xs sp) (hb : Below w.heap.size w w') : OwnsC e size w' base v n xs sp := h.below hb fun k hk => (h.lt k hk).2
theorem OwnsC.base_ {base' : Nat} (h : OwnsC e size w base v n xs sp) (hb : base' ≤ base) : OwnsC e size w base' v n xs sp := by
  rcases h with h | ⟨g, cap, hv, hbb, rest⟩
  · exact .inl h
  · exact .inr ⟨g, cap, hv, Nat.le_trans hb hbb, rest⟩
theorem OwnsC.alloc (h : OwnsC e size w base v n xs sp) (o : Obj) : OwnsC e size (w.alloc o) base v n xs sp := h.kept (World.grownBy_alloc w o none) (by cases hv : v.ownBlock <;> simp)
theorem OwnsC.off {c i : Nat} (h : OwnsC e size w base v n xs sp) (hne : v.ownBlock ≠ some c) (u : Value) : OwnsC e size (w.setCell ⟨c, i, none⟩ u) base v n xs sp := by
  rcases h with h | ⟨g, cap, rfl, hb, hgg, rest⟩
  · exact .inl h
  · exact .inr ⟨g, cap, rfl, hb, hgg.off (fun e => hne (by simp [Value.ownBlock, e])) u, rest⟩
/-- A literal that has just been made: n elements, no spare room. -/
theorem OwnsC.lit (w : World) (cs : Array Value) (n : Nat) (hb : base ≤ w.heap.size) (hm : n ≤ maxLen) (hs : cs.size = n * size) :
    OwnsC e size (w.alloc (.cells cs e)) base (.slice (some ⟨w.heap.size, 0, none⟩) n n) n cs.toList [] :=
  .inr ⟨w.heap.size, n, rfl, hb, by simpa using Blk.new w e cs, Nat.le_refl _, hm, by simpa using hs, by simp⟩
/-- It reads. -/
theorem OwnsC.reads (h : OwnsC e size w base v n xs sp) : ∃ A c, v = .slice A n c ∧ n ≤ c ∧ c ≤ maxLen ∧ Reads w A xs ∧ Reads w A (xs ++ sp) := by
  rcases h with ⟨rfl, rfl, rfl, rfl⟩ | ⟨g, cap, rfl, hb, hgg, hnc, hcm, hx, hsp⟩
  · exact ⟨none, 0, rfl, Nat.le_refl _, by simp [maxLen], Reads.nil _ _, Reads.nil _ _⟩
  · have hall : Reads w (some ⟨g, 0, none⟩) (xs ++ sp) := fun _ => ⟨g, 0, rfl, fun j u hu => by rw [hgg.cell]; simpa using hu⟩
    refine ⟨_, cap, rfl, hnc, hcm, ?_, hall⟩
    have := hall.take xs.length
    rwa [List.take_left] at this
end

/-- Only block 'row' and new blocks may have been written. -/
theorem grown_below {B : Nat} {a w w' : World} {row : Option Nat} (h : Below B a w) (hg : w.grownBy w' row) (hB : B ≤ w.heap.size) (hr : ∀ k, row = some k → B ≤ k) : Below B a w' := h.grown hg hB hr

section
variable {P : Program} (w : World)
theorem mem_zeroCells {z : Array Value} {n : Nat} {u : Value} (h : u ∈ (Builtin.zeroCells z n).toList) : u ∈ z.toList := by
  unfold Builtin.zeroCells at h
  simp only [Array.toList_map, List.mem_map, Array.mem_toList_iff, Array.mem_range] at h
  obtain ⟨i, hi, rfl⟩ := h
  have hz : 0 < z.size := by
    rcases Nat.eq_zero_or_pos z.size with h0 | h0
    · rw [h0] at hi; omega
    · exact h0
  have : i % z.size < z.size := Nat.mod_lt _ hz
  rw [getElem!_pos z (i % z.size) this]
  exact Array.getElem_mem_toList this

/-- Append, whatever the source: the new slice, what stands behind it, what may have been written. -/
theorem run_append_all (base : Nat) (t ty e : TypeId) (i : TypeInfo) (z : Value) (size bytes : Nat) (ht : P.underlying t = some (.slice e)) (hi : P.info? e = some i) (hz : i.zero = some z)
    (hsize : i.size = size) (hby : i.bytes = bytes) (hzs : z.cells.size = size) (hsz : 0 < size)
    (v : Value) (n : Nat) (xs sp : List Value) (hown : OwnsC e size w base v n xs sp)
    (A : Option Addr) (m c : Nat) (news : List Value) (hl : news.length = m * size) (hr : Reads w A news) (h1 : ∀ u ∈ news, u.oneCell' = true)
    (h63 : n + m ≤ maxLen) (hbytes : (n + m) * bytes ≤ 140737488355328) (hbase : base ≤ w.heap.size) :
    ∃ v' w' sp', (Builtin.append_ #[t, t] ty #[v, .slice A m c]).run P w = .ok v' w' ∧ OwnsC e size w' base v' (n + m) (xs ++ news) sp' ∧ w.grownBy w' v.ownBlock ∧
      (v'.ownBlock = v.ownBlock ∨ v'.ownBlock = some w.heap.size) ∧ (∀ u ∈ sp', u ∈ sp ∨ u ∈ z.cells.toList) ∧ (v' = .slice none 0 0 ↔ v = .slice none 0 0 ∧ m = 0) := by
  subst hsize
  subst hby
  rcases Nat.eq_zero_or_pos m with hm | hm
  · subst hm
    have hn : news = [] := List.eq_nil_of_length_eq_zero (by simpa using hl)
    subst hn
    refine ⟨v, w, sp, ?_, by simpa using hown, World.grownBy.refl w _, .inl rfl, fun u hu => .inl hu, by simp⟩
    have hf : ∀ (s : Nat), (Builtin.firstCells s 0 (.slice A 0 c)).run P w = .ok #[] w := fun s => by
      cases A <;> simp [Builtin.firstCells, loadCells, loadCellsFrom]
    rcases hown with ⟨rfl, rfl, rfl, rfl⟩ | ⟨g, cap, rfl, _, _, hnc, _, _, _⟩
    · simp [Builtin.append_, run_underlying ht, sizeOf, typeInfo, hi, Builtin.lenOf, hf]
    · simp [Builtin.append_, run_underlying ht, sizeOf, typeInfo, hi, Builtin.lenOf, hf, hnc, storeCells]
  · have hne : news ≠ [] := by intro e; have := Nat.mul_pos hm hsz; rw [e] at hl; simp only [List.length_nil] at hl; omega
    obtain ⟨b, off, rfl, hc⟩ := hr hne
    have hnews : ∀ j u, news[j]? = some u → w.cell? ((⟨b, off, none⟩ : Addr).add j) = some u := fun j u hu => by rw [Addr.add_lit]; exact hc j u hu
    have hlen : (xs ++ news).length = (n + m) * i.size := by rw [List.length_append, hown.length, hl, Nat.add_mul]
    have hsmall : n + m ≤ 9223372036854775807 := by simp only [maxLen] at h63; omega
    have grown : ∀ (old : Nat) (row : Option Nat),
        OwnsC e i.size (w.drew.alloc (.cells (xs.toArray ++ news.toArray ++ Builtin.zeroCells z.cells (grownCap w (n + m) old e - (n + m))) e)) base
          (.slice (some ⟨w.heap.size, 0, none⟩) (n + m) (grownCap w (n + m) old e)) (n + m) (xs ++ news) (Builtin.zeroCells z.cells (grownCap w (n + m) old e - (n + m))).toList ∧
        w.grownBy (w.drew.alloc (.cells (xs.toArray ++ news.toArray ++ Builtin.zeroCells z.cells (grownCap w (n + m) old e - (n + m))) e)) row := by
      intro old row
      have hsz2 : w.drew.heap.size = w.heap.size := rfl
      refine ⟨.inr ⟨w.heap.size, _, rfl, hbase, ?_, grownCap_ge w (n + m) old e, grownCap_le_maxLen w (n + m) old e h63, hlen, ?_⟩, ⟨rfl, rfl, rfl, by simp, fun k (hk : k < w.drew.heap.size) _ => Below.heap_alloc w.drew _ k hk⟩⟩
      · have := Blk.new w.drew e (xs.toArray ++ news.toArray ++ Builtin.zeroCells z.cells (grownCap w (n + m) old e - (n + m)))
        refine this.sub ?_
        simp
      · rw [Array.length_toList, size_zeroCells, hzs]
    rcases hown with ⟨rfl, rfl, rfl, rfl⟩ | ⟨g, cap, rfl, hbg, hg, hnc, hcm, hxl, hspl⟩
    · have hrun := run_append_nil (P := P) w t ty e i z ht hi hz ⟨b, off, none⟩ m c news hl hnews hm (by omega) (by have := hbytes; simp only [Nat.zero_add] at this; omega)
      have hgr := grown 0 (Value.ownBlock (.slice none 0 0))
      simp only [Nat.zero_add, List.nil_append, Array.empty_append] at hgr ⊢
      exact ⟨_, _, _, hrun, hgr.1, hgr.2, .inr rfl, fun u hu => .inr (mem_zeroCells hu), by simp; omega⟩
    · by_cases hroom : n + m ≤ cap
      · have hcur : (xs ++ sp).toArray.size = cap * i.size := by
          simp only [List.size_toArray, List.length_append, hxl, hspl, ← Nat.add_mul]; congr 1; omega
        have hfit : n * i.size + news.length ≤ (xs ++ sp).toArray.size := by rw [hcur, hl, ← Nat.add_mul]; exact Nat.mul_le_mul_right _ hroom
        have hrun := run_append_room (P := P) w t ty e i ht hi g n cap (xs ++ sp).toArray hg ⟨b, off, none⟩ m c news hl hnews h1 hroom hfit
        refine ⟨_, _, sp.drop (m * i.size), hrun, .inr ⟨g, cap, rfl, hbg, ?_, hroom, hcm, hlen, ?_⟩, ⟨rfl, rfl, rfl, by simp, fun k _ hk => setRow_other w g k _ (fun e => hk (by simp [Value.ownBlock, e]))⟩, .inl rfl, fun u hu => .inl (List.mem_of_mem_drop hu), by simp⟩
        · refine (hg.setRow _).sub ?_
          congr 1
          rw [← hxl, List.take_left, ← hl, ← List.drop_drop, List.drop_left]
        · rw [List.length_drop, hspl, ← Nat.sub_mul]; congr 1; omega
      · have holds : ∀ j u, xs[j]? = some u → w.cell? ((⟨g, 0, none⟩ : Addr).add j) = some u := fun j u hu => by
          rw [Addr.add_lit, Nat.zero_add, hg.cell]
          simp only [List.getElem?_toArray]
          rw [List.getElem?_append_left (List.getElem?_eq_some_iff.1 hu).1]; exact hu
        have hrun := run_append_grow (P := P) w t ty e i z ht hi hz ⟨g, 0, none⟩ n cap xs hxl holds ⟨b, off, none⟩ m c news hl hnews (by omega) (by omega) (growslice_fits (by omega) hbytes)
        have hgr := grown cap (Value.ownBlock (.slice (some ⟨g, 0, none⟩) n cap))
        exact ⟨_, _, _, hrun, hgr.1, hgr.2, .inr rfl, fun u hu => .inr (mem_zeroCells hu), by simp⟩
end

section
variable {P : Program} {w : World}
theorem wp_append_all {o : Oper} {a : Act} {K : Act → World → Prop} {Q : Exit → Act → World → Prop} (s x : Operand) (t : TypeId)
    (ho : o.op = .call { callee := .builtin .append, args := #[s, x], argTypes := #[t, t] })
    (base : Nat) (e : TypeId) (z : Value) (size bytes : Nat) (ht : P.underlying t = some (.slice e)) (hi : (P.info? e).map (fun i => (i.zero, i.size, i.bytes)) = some (some z, size, bytes)) (hzs : z.cells.size = size) (hsz : 0 < size)
    (v : Value) (n : Nat) (xs sp : List Value) (hs : a.eval s = v) (hown : OwnsC e size w base v n xs sp)
    (A : Option Addr) (m c : Nat) (news : List Value) (hx : a.eval x = .slice A m c) (hl : news.length = m * size) (hr : Reads w A news) (h1 : ∀ u ∈ news, u.oneCell' = true)
    (h63 : n + m ≤ maxLen) (hbytes : (n + m) * bytes ≤ 140737488355328) (hbase : base ≤ w.heap.size)
    (h : ∀ v' w' sp', OwnsC e size w' base v' (n + m) (xs ++ news) sp' → w.grownBy w' v.ownBlock → (v'.ownBlock = v.ownBlock ∨ v'.ownBlock = some w.heap.size) → (∀ u ∈ sp', u ∈ sp ∨ u ∈ z.cells.toList) → (v' = .slice none 0 0 ↔ v = .slice none 0 0 ∧ m = 0) → K (a.put o.dst v') w') : o.wp P a w K Q := by
  obtain ⟨i, hi0, hz, hsize, hby⟩ := info_parts hi
  obtain ⟨v', w', sp', hrun, h2, h3, h4, h5, h6⟩ := run_append_all (P := P) w base t o.type e i z size bytes ht hi0 hz hsize hby hzs hsz v n xs sp hown A m c news hl hr h1 h63 hbytes hbase
  unfold Oper.wp execOp
  simp only [ho, resolve, invoke, builtin, Sem.run_bind, Sem.run_pure, Result.andThen_ok, List.map_toArray, List.map_cons, List.map_nil, hs, hx, hrun]
  exact h v' w' sp' h2 h3 h4 h5 h6

/-! ### Bytes -/
def OwnB (e : TypeId) (w : World) (base : Nat) (v : Value) (l sp : List UInt8) : Prop := OwnsC e 1 w base v l.length (l.map u8v) (sp.map u8v)
theorem u8_list {xs : List Value} (h : ∀ u ∈ xs, ∃ b, u = u8v b) : ∃ l : List UInt8, xs = l.map u8v := by
  induction xs with
  | nil => exact ⟨[], rfl⟩
  | cons x xs ih =>
    obtain ⟨b, rfl⟩ := h x (by simp)
    obtain ⟨l, rfl⟩ := ih fun u hu => h u (by simp [hu])
    exact ⟨b :: l, rfl⟩
theorem u8v_one (l : List UInt8) : ∀ u ∈ l.map u8v, u.oneCell' = true := by
  intro u hu; simp only [List.mem_map] at hu; obtain ⟨b, _, rfl⟩ := hu; rfl
theorem wp_append_bytes {o : Oper} {a : Act} {K : Act → World → Prop} {Q : Exit → Act → World → Prop} (s x : Operand) (t : TypeId)
    (ho : o.op = .call { callee := .builtin .append, args := #[s, x], argTypes := #[t, t] })
    (base : Nat) (e : TypeId) (ht : P.underlying t = some (.slice e)) (hi : (P.info? e).map (fun i => (i.zero, i.size, i.bytes)) = some (some (.int .u8 0), 1, 1))
    (v : Value) (l sp : List UInt8) (hs : a.eval s = v) (hown : OwnB e w base v l sp)
    (A : Option Addr) (c : Nat) (m : List UInt8) (hx : a.eval x = .slice A m.length c) (hr : Bytes w A m) (hlen : l.length + m.length ≤ 140737488355328) (hbase : base ≤ w.heap.size)
    (h : ∀ v' w' sp', OwnB e w' base v' (l ++ m) sp' → w.grownBy w' v.ownBlock → (v'.ownBlock = v.ownBlock ∨ v'.ownBlock = some w.heap.size) → (v' = .slice none 0 0 ↔ v = .slice none 0 0 ∧ m.length = 0) → K (a.put o.dst v') w') : o.wp P a w K Q := by
  refine wp_append_all s x t ho base e (.int .u8 0) 1 1 ht hi rfl (by omega) v l.length (l.map u8v) (sp.map u8v) hs hown A m.length c (m.map u8v) hx (by simp) hr (u8v_one m) (by simp only [maxLen]; omega) (by omega) hbase ?_
  intro v' w' sp' h1 h2 h3 h4 h5
  obtain ⟨q, rfl⟩ := u8_list (xs := sp') (fun u hu => by
    rcases h4 u hu with h | h
    · simp only [List.mem_map] at h; obtain ⟨b, _, rfl⟩ := h; exact ⟨b, rfl⟩
    · simp [Value.cells] at h; exact ⟨0, by rw [h]; rfl⟩)
  refine h v' w' q ?_ h2 h3 h5
  unfold OwnB
  rw [List.map_append, List.length_append]
  exact h1
theorem wpList_append_bytes {ops : Array Oper} {rest : List Oper} {o : Oper} {a : Act} {Q : Exit → Act → World → Prop} (hgd : o.guard = none) (s x : Operand) (t : TypeId)
    (ho : o.op = .call { callee := .builtin .append, args := #[s, x], argTypes := #[t, t] })
    (base : Nat) (e : TypeId) (ht : P.underlying t = some (.slice e)) (hi : (P.info? e).map (fun i => (i.zero, i.size, i.bytes)) = some (some (.int .u8 0), 1, 1))
    (v : Value) (l sp : List UInt8) (hs : a.eval s = v) (hown : OwnB e w base v l sp)
    (A : Option Addr) (c : Nat) (m : List UInt8) (hx : a.eval x = .slice A m.length c) (hr : Bytes w A m) (hlen : l.length + m.length ≤ 140737488355328) (hbase : base ≤ w.heap.size)
    (h : ∀ v' w' sp', OwnB e w' base v' (l ++ m) sp' → w.grownBy w' v.ownBlock → (v'.ownBlock = v.ownBlock ∨ v'.ownBlock = some w.heap.size) → (v' = .slice none 0 0 ↔ v = .slice none 0 0 ∧ m.length = 0) → wpList P ops Q rest (a.put o.dst v') w') : wpList P ops Q (o :: rest) a w :=
  wpList_plain hgd fun _ hK => wp_append_bytes s x t ho base e ht hi v l sp hs hown A c m hx hr hlen hbase fun v' w' sp' h1 h2 h3 h4 => hK _ _ (h v' w' sp' h1 h2 h3 h4)
end
theorem OwnB.alloc {e : TypeId} {w : World} {base : Nat} {v : Value} {l sp : List UInt8} (h : OwnB e w base v l sp) (o : Obj) : OwnB e (w.alloc o) base v l sp := OwnsC.alloc h o
theorem Bytes.below {w w' : World} {A : Option Addr} {l : List UInt8} (h : Bytes w A l) (hb : Below w.heap.size w w') : Bytes w' A l := Reads.below h hb
/-- A literal that has just been made reads. -/
theorem bytes_lit (w : World) (t : TypeId) (l : List UInt8) : Bytes (w.alloc (.cells (l.map u8v).toArray t)) (some ⟨w.heap.size, 0, none⟩) l := fun _ =>
  ⟨w.heap.size, 0, rfl, fun j v hv => by
    have := Blk.new w t (l.map u8v).toArray
    rw [Nat.zero_add, this.cell j]; simpa using hv⟩
theorem Bytes.upd {w w' : World} {g : Nat} {A : Option Addr} {l : List UInt8} (h : Bytes w A l) (u : Upd g w w') (hne : ∀ ad, A = some ad → ad.block ≠ g) : Bytes w' A l := fun hn => by
  obtain ⟨b, off, e, hc⟩ := h hn
  refine ⟨b, off, e, fun j v hv => ?_⟩
  have hb : b ≠ g := hne _ e
  exact (World.cell?_of_block (w := w) (u.block b hb)).trans (hc j v hv)
theorem block_cut {A : Option Addr} {k cap B : Nat} (h : ∀ ad, A = some ad → B < ad.block) : ∀ ad, (if cap = k then A else A.map (·.add k)) = some ad → B < ad.block := by
  intro ad hd
  split at hd
  · exact h ad hd
  · cases A with
    | none => cases hd
    | some a =>
      simp only [Option.map_some, Option.some.injEq] at hd
      rw [← hd]
      have := h a rfl
      unfold Addr.add
      split <;> exact this
theorem OwnB.upd {e : TypeId} {w w' : World} {base g : Nat} {v : Value} {l sp : List UInt8} (h : OwnB e w base v l sp) (u : Upd g w w') (hne : v.ownBlock ≠ some g) : OwnB e w' base v l sp := by
  rcases h with h | ⟨b, cap, hv, hb, hg, rest⟩
  · exact .inl h
  · exact .inr ⟨b, cap, hv, hb, hg.upd u (fun e => hne (by rw [hv, ← e]; rfl)), rest⟩
end Go
