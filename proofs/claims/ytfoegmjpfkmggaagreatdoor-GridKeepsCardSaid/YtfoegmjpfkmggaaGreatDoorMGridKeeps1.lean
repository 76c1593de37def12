/- Words of this proof for bytes, 32-bit words and blocks of memory: plain facts over any program. No condition. -/
import Derived.WalkKit
import Derived.WalkSpells
import Derived.WalkLawsBesides
import Derived.Deep.Draws
import Derived.Deep.QuietTactic
import Derived.BigQuiet
import Derived.StillTailTactics
import Derived.Lib.Hide
import Derived.Deep.WholeRow
import Derived.Laws.OwnMore
import Derived.ProofKit
import Derived.OpenShut
import Derived.Deep.Slices
import Derived.Test.YtfoegmjpfkmggaaGreatDoorRows
namespace Go
open Go.RowKit

/-! ### 32-bit words and bytes as Go's integers -/
def iu32 (x : UInt32) : Int := (x.toNat : Int)
def iu8 (x : UInt8) : Int := (x.toNat : Int)
theorem iu8_lo (x : UInt8) : 0 ≤ iu8 x := by unfold iu8; omega
theorem iu8_hi (x : UInt8) : iu8 x < 256 := by have := x.toNat_lt; unfold iu8; omega
theorem iu8_inj {x y : UInt8} (h : iu8 x = iu8 y) : x = y := by unfold iu8 at h; exact UInt8.toNat_inj.1 (by omega)
theorem iu8_ofNat (n : Nat) (h : n < 256) : iu8 (UInt8.ofNat n) = (n : Int) := by unfold iu8; rw [UInt8.toNat_ofNat_of_lt' (by simpa [UInt8.size] using h)]
theorem iu8_ofNat_mod (n : Nat) : iu8 (UInt8.ofNat (n % 256)) = (n : Int) % 256 := by rw [iu8_ofNat _ (Nat.mod_lt _ (by omega))]; omega
@[go_sem] theorem u32_xor_w (a b : UInt32) : bits .xor .u32 (iu32 a) (iu32 b) = iu32 (a ^^^ b) := by
  unfold iu32; rw [u32_xor_nat _ _ a.toNat_lt b.toNat_lt, UInt32.toNat_xor]
@[go_sem] theorem u32_or_w (a b : UInt32) : bits .or .u32 (iu32 a) (iu32 b) = iu32 (a ||| b) := by
  unfold iu32; rw [u32_or_nat _ _ a.toNat_lt b.toNat_lt, UInt32.toNat_or]
@[go_sem] theorem u32_and_w (a b : UInt32) : bits .and .u32 (iu32 a) (iu32 b) = iu32 (a &&& b) := by
  unfold iu32; rw [u32_and_nat _ _ a.toNat_lt b.toNat_lt, UInt32.toNat_and]
@[go_sem] theorem u32_add_w (a b : UInt32) : (iu32 a + iu32 b) % 4294967296 = iu32 (a + b) := by
  unfold iu32; rw [UInt32.toNat_add]; omega
@[go_sem] theorem u32_add3_w (a b c : UInt32) : (iu32 a + iu32 b + iu32 c) % 4294967296 = iu32 (a + b + c) := by
  rw [← u32_add_w (a + b) c, ← u32_add_w a b]; omega
@[go_sem] theorem u32_add4_w (a b c d : UInt32) : (iu32 a + iu32 b + iu32 c + iu32 d) % 4294967296 = iu32 (a + b + c + d) := by
  rw [← u32_add_w (a + b + c) d, ← u32_add3_w a b c]; omega
@[go_sem] theorem u32_add5_w (a b c d e : UInt32) : (iu32 a + iu32 b + iu32 c + iu32 d + iu32 e) % 4294967296 = iu32 (a + b + c + d + e) := by
  rw [← u32_add_w (a + b + c + d) e, ← u32_add4_w a b c d]; omega
theorem u32_shr_nat (x : UInt32) (n : Nat) (h : n < 32) : (x >>> UInt32.ofNat n).toNat = x.toNat / 2 ^ n := by
  have h1 : (UInt32.ofNat n).toNat = n := UInt32.toNat_ofNat_of_lt' (by simp [UInt32.size]; omega)
  rw [UInt32.toNat_shiftRight, h1, Nat.mod_eq_of_lt h, Nat.shiftRight_eq_div_pow]
theorem u32_shl_nat (x : UInt32) (n : Nat) (h : n < 32) : (x <<< UInt32.ofNat n).toNat = x.toNat * 2 ^ n % 4294967296 := by
  have h1 : (UInt32.ofNat n).toNat = n := UInt32.toNat_ofNat_of_lt' (by simp [UInt32.size]; omega)
  rw [UInt32.toNat_shiftLeft, h1, Nat.mod_eq_of_lt h, Nat.shiftLeft_eq]
theorem u32_shr_w (x : UInt32) (n : Nat) (h : n < 32) : iu32 x / 2 ^ n = iu32 (x >>> UInt32.ofNat n) := by
  unfold iu32; rw [u32_shr_nat x n h]; simp
theorem u32_shl_w (x : UInt32) (n : Nat) (h : n < 32) : iu32 x * 2 ^ n % 4294967296 = iu32 (x <<< UInt32.ofNat n) := by
  unfold iu32; rw [u32_shl_nat x n h]; simp

@[go_sem] theorem u8_u32_w (x : UInt8) : iu8 x % 4294967296 = iu32 x.toUInt32 := by
  have := x.toNat_lt; unfold iu8 iu32; rw [UInt8.toNat_toUInt32]; omega
@[go_sem] theorem u32_shl24_w (x : UInt32) : iu32 x * (16777216 : Int) % (4294967296 : Int) = iu32 (x <<< (24 : UInt32)) := u32_shl_w x 24 (by omega)
@[go_sem] theorem u32_shl16_w (x : UInt32) : iu32 x * (65536 : Int) % (4294967296 : Int) = iu32 (x <<< (16 : UInt32)) := u32_shl_w x 16 (by omega)
@[go_sem] theorem u32_shl8_w (x : UInt32) : iu32 x * (256 : Int) % (4294967296 : Int) = iu32 (x <<< (8 : UInt32)) := u32_shl_w x 8 (by omega)

@[go_sem] theorem u32_shr3_w (x : UInt32) : iu32 x / (8 : Int) = iu32 (x >>> (3 : UInt32)) := u32_shr_w x 3 (by omega)
@[go_sem] theorem u32_shr10_w (x : UInt32) : iu32 x / (1024 : Int) = iu32 (x >>> (10 : UInt32)) := u32_shr_w x 10 (by omega)
@[go_sem] theorem u32_not_w (x : UInt32) : 4294967295 - iu32 x = iu32 (~~~x) := by
  have := x.toNat_lt; unfold iu32; rw [UInt32.toNat_not]; simp [UInt32.size]; omega

@[go_sem] theorem u32_xor_max_w (x : UInt32) : bits .xor .u32 IntKind.u32.max (iu32 x) = iu32 (~~~x) := by
  have e : IntKind.u32.max = iu32 (-1) := rfl
  rw [e, u32_xor_w]
  congr 1

/-! ### Blocks of memory: 'Blk w b t cs': block b is just the cells cs -/
def Blk (w : World) (b : Nat) (t : TypeId) (cs : Array Value) : Prop := w.heap[b]? = some (.cells cs t (0, 0))
section
variable {w w' : World} {b : Nat} {t : TypeId} {cs : Array Value}
theorem Blk.lt (h : Blk w b t cs) : b < w.heap.size := by
  rcases Nat.lt_or_ge b w.heap.size with hlt | hge
  · exact hlt
  · unfold Blk at h; rw [Array.getElem?_eq_none hge] at h; cases h
theorem Blk.cell (h : Blk w b t cs) (i : Nat) : w.cell? ⟨b, i, none⟩ = cs[i]? := cell_of_row w b i cs t (0, 0) h
theorem Blk.frozen (h : Blk w b t cs) (i : Nat) : w.frozen? ⟨b, i, none⟩ = false := by
  unfold Blk at h; simp [World.frozen?, h]
theorem Blk.new (w : World) (t : TypeId) (cs : Array Value) : Blk (w.alloc (.cells cs t)) w.heap.size t cs := heap_alloc_new w _
theorem Blk.new' (w : World) (t : TypeId) (cs : Array Value) {n : Nat} (h : n = w.heap.size) : Blk (w.alloc (.cells cs t)) n t cs := by subst h; exact heap_alloc_new w _
theorem Blk.drew (h : Blk w b t cs) : Blk w.drew b t cs := h
theorem Blk.drewN (h : Blk w b t cs) (n : Nat) : Blk (w.drewN n) b t cs := h
theorem Blk.alloc (h : Blk w b t cs) (o : Obj) : Blk (w.alloc o) b t cs := (Below.heap_alloc w o b h.lt).trans h
theorem Blk.set_ (h : Blk w b t cs) (i : Nat) (u : Value) : Blk (w.setCell ⟨b, i, none⟩ u) b t (cs.setIfInBounds i u) := by
  unfold Blk at h ⊢
  simp [World.setCell, Array.getElem?_modify, h]
theorem Blk.far (h : Blk w b t cs) {p : Addr} (hp : b ≠ p.block) (u : Value) : Blk (w.setCell p u) b t cs := (Below.heap_setCell w p u b hp).trans h
theorem Blk.off (h : Blk w b t cs) {c i : Nat} (hne : b ≠ c) (u : Value) : Blk (w.setCell ⟨c, i, none⟩ u) b t cs := h.far (p := ⟨c, i, none⟩) hne u
theorem Blk.below {B : Nat} (h : Blk w b t cs) (hb : Below B w w') (hg : b < B) : Blk w' b t cs := (hb.block b hg).trans h
theorem Blk.sub {cs' : Array Value} (h : Blk w b t cs) (e : cs = cs') : Blk w b t cs' := e ▸ h
end


/-- Block g alone may have been written, no block has come. -/
structure Upd (g : Nat) (w w' : World) : Prop where
  os : w'.os = w.os
  tape : w'.tape = w.tape
  output : w'.output = w.output
  size : w'.heap.size = w.heap.size
  block : ∀ k, k ≠ g → w'.heap[k]? = w.heap[k]?
theorem Upd.setRow (w : World) (g : Nat) (cs : Array Value) : Upd g w (w.setRow g cs) := ⟨rfl, rfl, rfl, by simp, fun k hk => setRow_other w g k cs hk⟩
theorem Blk.setRow {w : World} {g : Nat} {t : TypeId} {cs : Array Value} (h : Blk w g t cs) (cs' : Array Value) : Blk (w.setRow g cs') g t cs' := setRow_heap w g cs cs' t _ h
theorem Blk.upd {w w' : World} {b g : Nat} {t : TypeId} {cs : Array Value} (h : Blk w b t cs) (u : Upd g w w') (hne : b ≠ g) : Blk w' b t cs := (u.block b hne).trans h
theorem RowKit.Below.upd {B g : Nat} {a w w' : World} (h : Below B a w) (u : Upd g w w') (hg : B ≤ g) : Below B a w' :=
  h.trans ⟨u.os, u.tape, u.output, by rw [u.size]; exact Nat.le_refl _, fun k hk => u.block k (by omega)⟩

/-! ### A whole array or struct out of, and into, a block -/
section
variable {P : Program} {w : World} {Q : Exit → Act → World → Prop}
theorem wpList_load_blk {ops : Array Oper} {rest : List Oper} {o : Oper} {a : Act} {g : Nat} {t : TypeId} {cs : Array Value} (hb : Blk w g t cs) (hgd : o.guard = none) (ty : TypeId) (x : Operand) (ho : o.op = .load ty x)
    (hx : a.eval x = .pointer (some ⟨g, 0, none⟩)) (d : TypeDesc)
    (hu : P.underlying ty = some d) (hd : (match d with | .struct _ | .array _ _ => true | _ => false) = true) {n : Nat} (hi : (P.info? ty).map (·.size) = some n) (hn : cs.size = n)
    (h : wpList P ops Q rest (a.put o.dst (.agg cs)) w) : wpList P ops Q (o :: rest) a w :=
  wpList_load_row hgd ty x ho g hx t cs (0, 0) d hb hu hd (hn ▸ hi) h
theorem wp_store_blk {o : Oper} {a : Act} {K : Act → World → Prop} {g : Nat} {t : TypeId} {cs : Array Value} (hb : Blk w g t cs) (ty : TypeId) (x y : Operand) (ho : o.op = .store ty x y)
    (hx : a.eval x = .pointer (some ⟨g, 0, none⟩)) (cs' : Array Value) (hy : a.eval y = .agg cs') {n : Nat} (hi : (P.info? ty).map (·.size) = some n) (hs : cs.size = n) (hs' : cs'.size = n) (h1 : cs'.all (·.oneCell') = true)
    (h : ∀ w', Blk w' g t cs' → Upd g w w' → K (a.put o.dst undef) w') : o.wp P a w K Q := by
  have hr := run_storeVar_row (P := P) w g t ty cs cs' hb (hs'.symm ▸ hi) (hs.trans hs'.symm) h1
  unfold Oper.wp execOp
  simp only [ho, hx, hy, Instr.storeAt, Instr.sureAddr, Sem.run_bind, Sem.run_pure, Result.andThen_ok, hr]
  exact h _ (hb.setRow cs') (Upd.setRow w g cs')
theorem wpList_store_blk {ops : Array Oper} {rest : List Oper} {o : Oper} {a : Act} {g : Nat} {t : TypeId} {cs : Array Value} (hb : Blk w g t cs) (hgd : o.guard = none) (ty : TypeId) (x y : Operand) (ho : o.op = .store ty x y)
    (hx : a.eval x = .pointer (some ⟨g, 0, none⟩)) (cs' : Array Value) (hy : a.eval y = .agg cs') {n : Nat} (hi : (P.info? ty).map (·.size) = some n) (hs : cs.size = n) (hs' : cs'.size = n) (h1 : cs'.all (·.oneCell') = true)
    (h : ∀ w', Blk w' g t cs' → Upd g w w' → wpList P ops Q rest (a.put o.dst undef) w') : wpList P ops Q (o :: rest) a w :=
  wpList_plain hgd fun _ hK => wp_store_blk hb ty x y ho hx cs' hy hi hs hs' h1 fun w' h1 h2 => hK _ _ (h w' h1 h2)
end

/-- An operation that yields a value in the world at hand, by a run that the kernel can reckon. -/
theorem wpList_run {P : Program} {w : World} {Q : Exit → Act → World → Prop} {ops : Array Oper} {rest : List Oper} {o : Oper} {a : Act} (v : Value) (hgd : o.guard = none) (hr : (execOp a.eval o).run P w = .ok (.value v) w)
    (h : wpList P ops Q rest (a.put o.dst v) w) : wpList P ops Q (o :: rest) a w :=
  wpList_plain hgd fun _ hK => by unfold Oper.wp; rw [hr]; exact hK _ _ h

/-! ### A region that draws its order: all but the last few operations only read; those come in one forced order -/
section
variable {P : Program} {ops : Array Oper} {w : World}
theorem still_of_quiet {o : Oper} {a : Act} {K K' : Act → Prop} (hk : ∀ a, K a → K' a) (h : o.quiet P a (fun w' => w' = w) K) : o.still P a w K' := by
  obtain ⟨v, h1, h2⟩ := h
  have h3 := h1 w rfl
  unfold Oper.quietAt at h3
  unfold Oper.still
  generalize (execOp a.eval o).run P w = r at *
  cases r with
  | ok n w' =>
    cases n <;> simp only [Oper.quietUpon] at h3 <;> simp only [Oper.stillUpon]
    case value u => obtain ⟨e1, e2⟩ := h3; subst e1; subst e2; exact ⟨rfl, hk _ h2⟩
    case skip => obtain ⟨e1, e2⟩ := h3; subst e1; subst e2; exact ⟨rfl, hk _ h2⟩
    case enter f args => obtain ⟨e1, hc⟩ := h3; subst e1; exact ⟨rfl, v, hc, hk _ h2⟩
  | halt x w' => simp only [Oper.quietUpon] at h3
theorem wpStill_of_wpQuiet {Q : Act → Prop} : ∀ (l : List Oper) (a : Act), wpQuiet P ops (fun w' => w' = w) Q l a → wpStill P ops w Q l a
  | [], _, h => h
  | o :: l, a, h => by
    unfold wpQuiet at h
    unfold wpStill
    split
    · rename_i hw; rw [if_pos hw] at h; exact still_of_quiet (fun a' h' => wpStill_of_wpQuiet l a' h') h
    · rename_i hw; rw [if_neg hw] at h; exact wpStill_of_wpQuiet l _ h
theorem wp_region_tail {id : Nat} {Q : Exit → Act → World → Prop} {a : Act} {l : List Oper} (n : Nat) (hm : P.follows .mixedOrders = true) (hB : Region.lexTailB .any l.toArray n = true)
    (h : wpQuiet P l.toArray (fun w' => w' = w.drew) (fun a' => wpList P l.toArray Q (l.drop n) a' w.drew) (l.take n) a) : (Code.region id l.toArray true).wp P Q a w :=
  wp_region_still_tail n hm hB (wpStill_of_wpQuiet _ _ h)
end

theorem RowKit.Below.set_ {B : Nat} {a w : World} (h : Below B a w) {c i : Nat} (hc : B ≤ c) (u : Value) : Below B a (w.setCell ⟨c, i, none⟩ u) := h.setCell (p := ⟨c, i, none⟩) hc u

/-! ### An array said by a function of the index -/
def arr (n : Nat) (f : Nat → Value) : Array Value := Array.ofFn (n := n) fun i => f i.val
theorem arr_get (n : Nat) (f : Nat → Value) (i : Nat) : (arr n f)[i]? = if i < n then some (f i) else none := by
  unfold arr; rw [Array.getElem?_ofFn]; split <;> simp_all
theorem arr_at {n : Nat} (f : Nat → Value) {i : Nat} (h : i < n) : (arr n f)[i]? = some (f i) := by rw [arr_get, if_pos h]
theorem arr_list (n : Nat) (g : Nat → Value) : ((List.range n).map g).toArray = arr n g := by
  apply Array.ext_getElem?; intro i
  rw [arr_get]
  by_cases h : i < n
  · simp [h]
  · simp [h]
theorem arr_size (n : Nat) (f : Nat → Value) : (arr n f).size = n := by simp [arr]
theorem arr_congr {n : Nat} {f g : Nat → Value} (h : ∀ i, i < n → f i = g i) : arr n f = arr n g := by
  apply Array.ext_getElem?; intro i; rw [arr_get, arr_get]; split <;> simp_all
theorem arr_set (n : Nat) (f : Nat → Value) (i : Nat) (v : Value) : (arr n f).setIfInBounds i v = arr n (fun j => if j = i then v else f j) := by
  apply Array.ext_getElem?; intro j
  rw [Array.getElem?_setIfInBounds, arr_get, arr_get, arr_size]
  by_cases hj : j = i
  · subst hj; by_cases hn : j < n <;> simp [hn]
  · rw [if_neg (fun e => hj e.symm), if_neg hj]

theorem ret_int {k : IntKind} {a b : Int} (h : a = b) : Ending.returned (.int k a) = .returned (.int k b) := by rw [h]
end Go

/- Slices: one that is only read, and one that the call itself has made, its spare room known too; append onto it. Plain facts over any program. No condition. -/
namespace Go
open Go.RowKit

def u8v (x : UInt8) : Value := .int .u8 (iu8 x)

/-! ### A slice that is read: n cells from its head on -/
/-- The cells from the address on are xs; an empty list asks nothing of the address. -/
def Reads (w : World) (A : Option Addr) (xs : List Value) : Prop :=
  xs ≠ [] → ∃ b off, A = some ⟨b, off, none⟩ ∧ ∀ j v, xs[j]? = some v → w.cell? ⟨b, off + j, none⟩ = some v
def Bytes (w : World) (A : Option Addr) (l : List UInt8) : Prop := Reads w A (l.map u8v)
section
variable {w w' : World} {A : Option Addr} {xs : List Value}
theorem Reads.nil (w : World) (A : Option Addr) : Reads w A [] := fun h => absurd rfl h
theorem Reads.keep (h : Reads w A xs) (hk : ∀ p : Addr, p.block < w.heap.size → w'.cell? p = w.cell? p) : Reads w' A xs := fun hn => by
  obtain ⟨b, off, e, hc⟩ := h hn
  refine ⟨b, off, e, fun j v hv => ?_⟩
  have h1 := hc j v hv
  rw [hk _ (World.block_lt_of_cell? w _ h1)]; exact h1
theorem Reads.below (h : Reads w A xs) (hb : Below w.heap.size w w') : Reads w' A xs := h.keep fun _ hp => hb.cell hp
theorem Reads.drewN (h : Reads w A xs) (n : Nat) : Reads (w.drewN n) A xs := h
theorem Reads.drop (h : Reads w A xs) {k cap : Nat} (hc : k < cap ∨ xs.length ≤ k) : Reads w (if cap = k then A else A.map (·.add k)) (xs.drop k) := fun hn => by
  have hlt : k < xs.length := by
    rcases Nat.lt_or_ge k xs.length with h1 | h1
    · exact h1
    · exact absurd (List.drop_eq_nil_of_le h1) hn
  obtain ⟨b, off, rfl, hcell⟩ := h (by intro e; rw [e] at hlt; simp at hlt)
  rw [if_neg (by omega)]
  refine ⟨b, off + k, by simp [Addr.add_lit], fun j v hv => ?_⟩
  rw [List.getElem?_drop] at hv
  rw [Nat.add_assoc]; exact hcell _ v hv
theorem Reads.take (h : Reads w A xs) (k : Nat) : Reads w A (xs.take k) := fun hn => by
  obtain ⟨b, off, e, hc⟩ := h (by intro e; subst e; simp at hn)
  refine ⟨b, off, e, fun j v hv => hc j v ?_⟩
  rw [List.getElem?_take] at hv
  split at hv
  · exact hv
  · cases hv
end
theorem Bytes.at_ {w : World} {A : Option Addr} {l : List UInt8} (h : Bytes w A l) (hn : 0 < l.length) : ∃ b off, A = some ⟨b, off, none⟩ ∧ b < w.heap.size ∧ ∀ j, j < l.length → w.cell? ⟨b, off + j, none⟩ = some (.int .u8 (iu8 (l.getD j 0))) := by
  obtain ⟨b, off, e, hc⟩ := h (by intro e; simp at e; subst e; simp at hn)
  have hcell : ∀ j, j < l.length → w.cell? ⟨b, off + j, none⟩ = some (.int .u8 (iu8 (l.getD j 0))) := fun j hj => hc j _ (by simp [hj, u8v])
  exact ⟨b, off, e, World.block_lt_of_cell? w _ (hcell 0 hn), hcell⟩
theorem Bytes.drop {w : World} {A : Option Addr} {l : List UInt8} (h : Bytes w A l) {k cap : Nat} (hc : k < cap ∨ l.length ≤ k) : Bytes w (if cap = k then A else A.map (·.add k)) (l.drop k) := by
  have := Reads.drop h (k := k) (cap := cap) (by simpa using hc)
  rwa [← List.map_drop] at this
theorem Bytes.take {w : World} {A : Option Addr} {l : List UInt8} (h : Bytes w A l) (k : Nat) : Bytes w A (l.take k) := by
  have := Reads.take h k
  rwa [← List.map_take] at this

/-! ### A slice that the call has made -/
/-- The slice value v, of n elements of type e ('size' cells each), begins at the head of a block from 'base' on whose cells are xs and, behind them, sp; or it is nil. -/
def OwnsC (e : TypeId) (size : Nat) (w : World) (base : Nat) (v : Value) (n : Nat) (xs sp : List Value) : Prop :=
  (v = .slice none 0 0 ∧ n = 0 ∧ xs = [] ∧ sp = []) ∨
  ∃ g cap, v = .slice (some ⟨g, 0, none⟩) n cap ∧ base ≤ g ∧ Blk w g e (xs ++ sp).toArray ∧ n ≤ cap ∧ cap ≤ maxLen ∧ xs.length = n * size ∧ sp.length = (cap - n) * size
section
variable {e : TypeId} {size base n : Nat} {w w' : World} {v : Value} {xs sp : List Value}
theorem OwnsC.nil (e : TypeId) (size : Nat) (w : World) (base : Nat) : OwnsC e size w base (.slice none 0 0) 0 [] [] := .inl ⟨rfl, rfl, rfl, rfl⟩
theorem OwnsC.length (h : OwnsC e size w base v n xs sp) : xs.length = n * size := by
  rcases h with ⟨_, rfl, rfl, _⟩ | ⟨g, cap, _, _, _, _, _, h, _⟩
  · simp
  · exact h
theorem OwnsC.lt (h : OwnsC e size w base v n xs sp) : ∀ k, v.ownBlock = some k → base ≤ k ∧ k < w.heap.size := by
  intro k hk
  rcases h with ⟨rfl, _⟩ | ⟨g, cap, rfl, hb, hg, _⟩
  · simp [Value.ownBlock] at hk
  · simp [Value.ownBlock] at hk; subst hk; exact ⟨hb, hg.lt⟩
theorem OwnsC.kept {row : Option Nat} (h : OwnsC e size w base v n xs sp) (hg : w.grownBy w' row) (hne : v.ownBlock = none ∨ v.ownBlock ≠ row) : OwnsC e size w' base v n xs sp := by
  rcases h with h | ⟨g, cap, rfl, hb, hgg, rest⟩
  · exact .inl h
  · exact .inr ⟨g, cap, rfl, hb, (hg.block g hgg.lt (by simpa [Value.ownBlock] using hne)).trans hgg, rest⟩
theorem OwnsC.below {B : Nat} (h : OwnsC e size w base v n xs sp) (hb : Below B w w') (hlt : ∀ k, v.ownBlock = some k → k < B) : OwnsC e size w' base v n xs sp := by
  rcases h with h | ⟨g, cap, rfl, hbb, hgg, rest⟩
  · exact .inl h
  · exact .inr ⟨g, cap, rfl, hbb, hgg.below hb (hlt g rfl), rest⟩
theorem OwnsC.ownBelow (h : OwnsC e size w base v n xs sp) (hb : Below w.heap.size w w') : OwnsC e size w' base v n xs sp := h.below hb fun k hk => (h.lt k hk).2
theorem OwnsC.base_ {base' : Nat} (h : OwnsC e size w base v n xs sp) (hb : base' ≤ base) : OwnsC e size w base' v n xs sp := by
  rcases h with h | ⟨g, cap, hv, hbb, rest⟩
  · exact .inl h
  · exact .inr ⟨g, cap, hv, Nat.le_trans hb hbb, rest⟩
theorem OwnsC.alloc (h : OwnsC e size w base v n xs sp) (o : Obj) : OwnsC e size (w.alloc o) base v n xs sp := h.kept (World.grownBy_alloc w o none) (by cases hv : v.ownBlock <;> simp)
theorem OwnsC.off {c i : Nat} (h : OwnsC e size w base v n xs sp) (hne : v.ownBlock ≠ some c) (u : Value) : OwnsC e size (w.setCell ⟨c, i, none⟩ u) base v n xs sp := by
  rcases h with h | ⟨g, cap, rfl, hb, hgg, rest⟩
  · exact .inl h
  · exact .inr ⟨g, cap, rfl, hb, hgg.off (fun e => hne (by simp [Value.ownBlock, e])) u, rest⟩
/-- A literal that has just been made: n elements, no spare room. -/
theorem OwnsC.lit (w : World) (cs : Array Value) (n : Nat) (hb : base ≤ w.heap.size) (hm : n ≤ maxLen) (hs : cs.size = n * size) :
    OwnsC e size (w.alloc (.cells cs e)) base (.slice (some ⟨w.heap.size, 0, none⟩) n n) n cs.toList [] :=
  .inr ⟨w.heap.size, n, rfl, hb, by simpa using Blk.new w e cs, Nat.le_refl _, hm, by simpa using hs, by simp⟩
/-- It reads. -/
theorem OwnsC.reads (h : OwnsC e size w base v n xs sp) : ∃ A c, v = .slice A n c ∧ n ≤ c ∧ c ≤ maxLen ∧ Reads w A xs ∧ Reads w A (xs ++ sp) := by
  rcases h with ⟨rfl, rfl, rfl, rfl⟩ | ⟨g, cap, rfl, hb, hgg, hnc, hcm, hx, hsp⟩
  · exact ⟨none, 0, rfl, Nat.le_refl _, by simp [maxLen], Reads.nil _ _, Reads.nil _ _⟩
  · have hall : Reads w (some ⟨g, 0, none⟩) (xs ++ sp) := fun _ => ⟨g, 0, rfl, fun j u hu => by rw [hgg.cell]; simpa using hu⟩
    refine ⟨_, cap, rfl, hnc, hcm, ?_, hall⟩
    have := hall.take xs.length
    rwa [List.take_left] at this
end

section
variable {P : Program} (w : World)
theorem mem_zeroCells {z : Array Value} {n : Nat} {u : Value} (h : u ∈ (Builtin.zeroCells z n).toList) : u ∈ z.toList := by
  unfold Builtin.zeroCells at h
  simp only [Array.toList_map, List.mem_map, Array.mem_toList_iff, Array.mem_range] at h
  obtain ⟨i, hi, rfl⟩ := h
  have hz : 0 < z.size := by
    rcases Nat.eq_zero_or_pos z.size with h0 | h0
    · rw [h0] at hi; omega
    · exact h0
  have : i % z.size < z.size := Nat.mod_lt _ hz
  rw [getElem!_pos z (i % z.size) this]
  exact Array.getElem_mem_toList this

/-- Append, whatever the source: the new slice, what stands behind it, what may have been written. -/
theorem run_append_all (base : Nat) (t ty e : TypeId) (i : TypeInfo) (z : Value) (size bytes : Nat) (ht : P.underlying t = some (.slice e)) (hi : P.info? e = some i) (hz : i.zero = some z)
    (hsize : i.size = size) (hby : i.bytes = bytes) (hzs : z.cells.size = size) (hsz : 0 < size)
    (v : Value) (n : Nat) (xs sp : List Value) (hown : OwnsC e size w base v n xs sp)
    (A : Option Addr) (m c : Nat) (news : List Value) (hl : news.length = m * size) (hr : Reads w A news) (h1 : ∀ u ∈ news, u.oneCell' = true)
    (h63 : n + m ≤ maxLen) (hbytes : (n + m) * bytes ≤ 140737488355328) (hbase : base ≤ w.heap.size) :
    ∃ v' w' sp', (Builtin.append_ #[t, t] ty #[v, .slice A m c]).run P w = .ok v' w' ∧ OwnsC e size w' base v' (n + m) (xs ++ news) sp' ∧ w.grownBy w' v.ownBlock ∧
      (v'.ownBlock = v.ownBlock ∨ v'.ownBlock = some w.heap.size) ∧ (∀ u ∈ sp', u ∈ sp ∨ u ∈ z.cells.toList) ∧ (v' = .slice none 0 0 ↔ v = .slice none 0 0 ∧ m = 0) := by
  subst hsize
  subst hby
  rcases Nat.eq_zero_or_pos m with hm | hm
  · subst hm
    have hn : news = [] := List.eq_nil_of_length_eq_zero (by simpa using hl)
    subst hn
    refine ⟨v, w, sp, ?_, by simpa using hown, World.grownBy.refl w _, .inl rfl, fun u hu => .inl hu, by simp⟩
    have hf : ∀ (s : Nat), (Builtin.firstCells s 0 (.slice A 0 c)).run P w = .ok #[] w := fun s => by
      cases A <;> simp [Builtin.firstCells, loadCells, loadCellsFrom]
    rcases hown with ⟨rfl, rfl, rfl, rfl⟩ | ⟨g, cap, rfl, _, _, hnc, _, _, _⟩
    · simp [Builtin.append_, run_underlying ht, sizeOf, typeInfo, hi, Builtin.lenOf, hf]
    · simp [Builtin.append_, run_underlying ht, sizeOf, typeInfo, hi, Builtin.lenOf, hf, hnc, storeCells]
  · have hne : news ≠ [] := by intro e; have := Nat.mul_pos hm hsz; rw [e] at hl; simp only [List.length_nil] at hl; omega
    obtain ⟨b, off, rfl, hc⟩ := hr hne
    have hnews : ∀ j u, news[j]? = some u → w.cell? ((⟨b, off, none⟩ : Addr).add j) = some u := fun j u hu => by rw [Addr.add_lit]; exact hc j u hu
    have hlen : (xs ++ news).length = (n + m) * i.size := by rw [List.length_append, hown.length, hl, Nat.add_mul]
    have hsmall : n + m ≤ 9223372036854775807 := by simp only [maxLen] at h63; omega
    have grown : ∀ (old : Nat) (row : Option Nat),
        OwnsC e i.size (w.drew.alloc (.cells (xs.toArray ++ news.toArray ++ Builtin.zeroCells z.cells (grownCap w (n + m) old e - (n + m))) e)) base
          (.slice (some ⟨w.heap.size, 0, none⟩) (n + m) (grownCap w (n + m) old e)) (n + m) (xs ++ news) (Builtin.zeroCells z.cells (grownCap w (n + m) old e - (n + m))).toList ∧
        w.grownBy (w.drew.alloc (.cells (xs.toArray ++ news.toArray ++ Builtin.zeroCells z.cells (grownCap w (n + m) old e - (n + m))) e)) row := by
      intro old row
      have hsz2 : w.drew.heap.size = w.heap.size := rfl
      refine ⟨.inr ⟨w.heap.size, _, rfl, hbase, ?_, grownCap_ge w (n + m) old e, grownCap_le_maxLen w (n + m) old e h63, hlen, ?_⟩, ⟨rfl, rfl, rfl, by simp, fun k (hk : k < w.drew.heap.size) _ => Below.heap_alloc w.drew _ k hk⟩⟩
      · have := Blk.new w.drew e (xs.toArray ++ news.toArray ++ Builtin.zeroCells z.cells (grownCap w (n + m) old e - (n + m)))
        refine this.sub ?_
        simp
      · rw [Array.length_toList, size_zeroCells, hzs]
    rcases hown with ⟨rfl, rfl, rfl, rfl⟩ | ⟨g, cap, rfl, hbg, hg, hnc, hcm, hxl, hspl⟩
    · have hrun := run_append_nil (P := P) w t ty e i z ht hi hz ⟨b, off, none⟩ m c news hl hnews hm (by omega) (by have := hbytes; simp only [Nat.zero_add] at this; omega)
      have hgr := grown 0 (Value.ownBlock (.slice none 0 0))
      simp only [Nat.zero_add, List.nil_append, Array.empty_append] at hgr ⊢
      exact ⟨_, _, _, hrun, hgr.1, hgr.2, .inr rfl, fun u hu => .inr (mem_zeroCells hu), by simp; omega⟩
    · by_cases hroom : n + m ≤ cap
      · have hcur : (xs ++ sp).toArray.size = cap * i.size := by
          simp only [List.size_toArray, List.length_append, hxl, hspl, ← Nat.add_mul]; congr 1; omega
        have hfit : n * i.size + news.length ≤ (xs ++ sp).toArray.size := by rw [hcur, hl, ← Nat.add_mul]; exact Nat.mul_le_mul_right _ hroom
        have hrun := run_append_room (P := P) w t ty e i ht hi g n cap (xs ++ sp).toArray hg ⟨b, off, none⟩ m c news hl hnews h1 hroom hfit
        refine ⟨_, _, sp.drop (m * i.size), hrun, .inr ⟨g, cap, rfl, hbg, ?_, hroom, hcm, hlen, ?_⟩, ⟨rfl, rfl, rfl, by simp, fun k _ hk => setRow_other w g k _ (fun e => hk (by simp [Value.ownBlock, e]))⟩, .inl rfl, fun u hu => .inl (List.mem_of_mem_drop hu), by simp⟩
        · refine (hg.setRow _).sub ?_
          congr 1
          rw [← hxl, List.take_left, ← hl, ← List.drop_drop, List.drop_left]
        · rw [List.length_drop, hspl, ← Nat.sub_mul]; congr 1; omega
      · have holds : ∀ j u, xs[j]? = some u → w.cell? ((⟨g, 0, none⟩ : Addr).add j) = some u := fun j u hu => by
          rw [Addr.add_lit, Nat.zero_add, hg.cell]
          simp only [List.getElem?_toArray]
          rw [List.getElem?_append_left (List.getElem?_eq_some_iff.1 hu).1]; exact hu
        have hrun := run_append_grow (P := P) w t ty e i z ht hi hz ⟨g, 0, none⟩ n cap xs hxl holds ⟨b, off, none⟩ m c news hl hnews (by omega) (by omega) (growslice_fits (by omega) hbytes)
        have hgr := grown cap (Value.ownBlock (.slice (some ⟨g, 0, none⟩) n cap))
        exact ⟨_, _, _, hrun, hgr.1, hgr.2, .inr rfl, fun u hu => .inr (mem_zeroCells hu), by simp⟩
end

section
variable {P : Program} {w : World}
theorem wp_append_all {o : Oper} {a : Act} {K : Act → World → Prop} {Q : Exit → Act → World → Prop} (s x : Operand) (t : TypeId)
    (ho : o.op = .call { callee := .builtin .append, args := #[s, x], argTypes := #[t, t] })
    (base : Nat) (e : TypeId) (z : Value) (size bytes : Nat) (ht : P.underlying t = some (.slice e)) (hi : (P.info? e).map (fun i => (i.zero, i.size, i.bytes)) = some (some z, size, bytes)) (hzs : z.cells.size = size) (hsz : 0 < size)
    (v : Value) (n : Nat) (xs sp : List Value) (hs : a.eval s = v) (hown : OwnsC e size w base v n xs sp)
    (A : Option Addr) (m c : Nat) (news : List Value) (hx : a.eval x = .slice A m c) (hl : news.length = m * size) (hr : Reads w A news) (h1 : ∀ u ∈ news, u.oneCell' = true)
    (h63 : n + m ≤ maxLen) (hbytes : (n + m) * bytes ≤ 140737488355328) (hbase : base ≤ w.heap.size)
    (h : ∀ v' w' sp', OwnsC e size w' base v' (n + m) (xs ++ news) sp' → w.grownBy w' v.ownBlock → (v'.ownBlock = v.ownBlock ∨ v'.ownBlock = some w.heap.size) → (∀ u ∈ sp', u ∈ sp ∨ u ∈ z.cells.toList) → (v' = .slice none 0 0 ↔ v = .slice none 0 0 ∧ m = 0) → K (a.put o.dst v') w') : o.wp P a w K Q := by
  obtain ⟨i, hi0, hz, hsize, hby⟩ := info_parts hi
  obtain ⟨v', w', sp', hrun, h2, h3, h4, h5, h6⟩ := run_append_all (P := P) w base t o.type e i z size bytes ht hi0 hz hsize hby hzs hsz v n xs sp hown A m c news hl hr h1 h63 hbytes hbase
  unfold Oper.wp execOp
  simp only [ho, resolve, invoke, builtin, Sem.run_bind, Sem.run_pure, Result.andThen_ok, List.map_toArray, List.map_cons, List.map_nil, hs, hx, hrun]
  exact h v' w' sp' h2 h3 h4 h5 h6

/-! ### Bytes -/
def OwnB (e : TypeId) (w : World) (base : Nat) (v : Value) (l sp : List UInt8) : Prop := OwnsC e 1 w base v l.length (l.map u8v) (sp.map u8v)
theorem u8_list {xs : List Value} (h : ∀ u ∈ xs, ∃ b, u = u8v b) : ∃ l : List UInt8, xs = l.map u8v := by
  induction xs with
  | nil => exact ⟨[], rfl⟩
  | cons x xs ih =>
    obtain ⟨b, rfl⟩ := h x (by simp)
    obtain ⟨l, rfl⟩ := ih fun u hu => h u (by simp [hu])
    exact ⟨b :: l, rfl⟩
theorem u8v_one (l : List UInt8) : ∀ u ∈ l.map u8v, u.oneCell' = true := by
  intro u hu; simp only [List.mem_map] at hu; obtain ⟨b, _, rfl⟩ := hu; rfl
theorem wp_append_bytes {o : Oper} {a : Act} {K : Act → World → Prop} {Q : Exit → Act → World → Prop} (s x : Operand) (t : TypeId)
    (ho : o.op = .call { callee := .builtin .append, args := #[s, x], argTypes := #[t, t] })
    (base : Nat) (e : TypeId) (ht : P.underlying t = some (.slice e)) (hi : (P.info? e).map (fun i => (i.zero, i.size, i.bytes)) = some (some (.int .u8 0), 1, 1))
    (v : Value) (l sp : List UInt8) (hs : a.eval s = v) (hown : OwnB e w base v l sp)
    (A : Option Addr) (c : Nat) (m : List UInt8) (hx : a.eval x = .slice A m.length c) (hr : Bytes w A m) (hlen : l.length + m.length ≤ 140737488355328) (hbase : base ≤ w.heap.size)
    (h : ∀ v' w' sp', OwnB e w' base v' (l ++ m) sp' → w.grownBy w' v.ownBlock → (v'.ownBlock = v.ownBlock ∨ v'.ownBlock = some w.heap.size) → (v' = .slice none 0 0 ↔ v = .slice none 0 0 ∧ m.length = 0) → K (a.put o.dst v') w') : o.wp P a w K Q := by
  refine wp_append_all s x t ho base e (.int .u8 0) 1 1 ht hi rfl (by omega) v l.length (l.map u8v) (sp.map u8v) hs hown A m.length c (m.map u8v) hx (by simp) hr (u8v_one m) (by simp only [maxLen]; omega) (by omega) hbase ?_
  intro v' w' sp' h1 h2 h3 h4 h5
  obtain ⟨q, rfl⟩ := u8_list (xs := sp') (fun u hu => by
    rcases h4 u hu with h | h
    · simp only [List.mem_map] at h; obtain ⟨b, _, rfl⟩ := h; exact ⟨b, rfl⟩
    · simp [Value.cells] at h; exact ⟨0, by rw [h]; rfl⟩)
  refine h v' w' q ?_ h2 h3 h5
  unfold OwnB
  rw [List.map_append, List.length_append]
  exact h1
theorem wpList_append_bytes {ops : Array Oper} {rest : List Oper} {o : Oper} {a : Act} {Q : Exit → Act → World → Prop} (hgd : o.guard = none) (s x : Operand) (t : TypeId)
    (ho : o.op = .call { callee := .builtin .append, args := #[s, x], argTypes := #[t, t] })
    (base : Nat) (e : TypeId) (ht : P.underlying t = some (.slice e)) (hi : (P.info? e).map (fun i => (i.zero, i.size, i.bytes)) = some (some (.int .u8 0), 1, 1))
    (v : Value) (l sp : List UInt8) (hs : a.eval s = v) (hown : OwnB e w base v l sp)
    (A : Option Addr) (c : Nat) (m : List UInt8) (hx : a.eval x = .slice A m.length c) (hr : Bytes w A m) (hlen : l.length + m.length ≤ 140737488355328) (hbase : base ≤ w.heap.size)
    (h : ∀ v' w' sp', OwnB e w' base v' (l ++ m) sp' → w.grownBy w' v.ownBlock → (v'.ownBlock = v.ownBlock ∨ v'.ownBlock = some w.heap.size) → (v' = .slice none 0 0 ↔ v = .slice none 0 0 ∧ m.length = 0) → wpList P ops Q rest (a.put o.dst v') w') : wpList P ops Q (o :: rest) a w :=
  wpList_plain hgd fun _ hK => wp_append_bytes s x t ho base e ht hi v l sp hs hown A c m hx hr hlen hbase fun v' w' sp' h1 h2 h3 h4 => hK _ _ (h v' w' sp' h1 h2 h3 h4)
end
theorem OwnB.alloc {e : TypeId} {w : World} {base : Nat} {v : Value} {l sp : List UInt8} (h : OwnB e w base v l sp) (o : Obj) : OwnB e (w.alloc o) base v l sp := OwnsC.alloc h o
theorem Bytes.below {w w' : World} {A : Option Addr} {l : List UInt8} (h : Bytes w A l) (hb : Below w.heap.size w w') : Bytes w' A l := Reads.below h hb
/-- A literal that has just been made reads. -/
theorem bytes_lit (w : World) (t : TypeId) (l : List UInt8) : Bytes (w.alloc (.cells (l.map u8v).toArray t)) (some ⟨w.heap.size, 0, none⟩) l := fun _ =>
  ⟨w.heap.size, 0, rfl, fun j v hv => by
    have := Blk.new w t (l.map u8v).toArray
    rw [Nat.zero_add, this.cell j]; simpa using hv⟩
theorem Bytes.upd {w w' : World} {g : Nat} {A : Option Addr} {l : List UInt8} (h : Bytes w A l) (u : Upd g w w') (hne : ∀ ad, A = some ad → ad.block ≠ g) : Bytes w' A l := fun hn => by
  obtain ⟨b, off, e, hc⟩ := h hn
  refine ⟨b, off, e, fun j v hv => ?_⟩
  have hb : b ≠ g := hne _ e
  exact (World.cell?_of_block (w := w) (u.block b hb)).trans (hc j v hv)
theorem block_cut {A : Option Addr} {k cap B : Nat} (h : ∀ ad, A = some ad → B < ad.block) : ∀ ad, (if cap = k then A else A.map (·.add k)) = some ad → B < ad.block := by
  intro ad hd
  split at hd
  · exact h ad hd
  · cases A with
    | none => cases hd
    | some a =>
      simp only [Option.map_some, Option.some.injEq] at hd
      rw [← hd]
      have := h a rfl
      unfold Addr.add
      split <;> exact this
theorem OwnB.upd {e : TypeId} {w w' : World} {base g : Nat} {v : Value} {l sp : List UInt8} (h : OwnB e w base v l sp) (u : Upd g w w') (hne : v.ownBlock ≠ some g) : OwnB e w' base v l sp := by
  rcases h with h | ⟨b, cap, hv, hb, hg, rest⟩
  · exact .inl h
  · exact .inr ⟨b, cap, hv, hb, hg.upd u (fun e => hne (by rw [hv, ← e]; rfl)), rest⟩
end Go

/- What is known of a world stays known where only new memory has come: one word for all such facts. Plain facts over any program. No condition. -/
namespace Go
open Go.RowKit
/-- A fact that stays as long as nothing that was there is written, and how it reads then. -/
class KeepsTo (w w' : World) (a : Prop) (b : outParam Prop) : Prop where
  go : Below w.heap.size w w' → a → b
theorem keep {a b : Prop} {w w' : World} (hb : Below w.heap.size w w') (h : a) [k : KeepsTo w w' a b] : b := k.go hb h
section
variable {w w' : World}
instance {A : Option Addr} {xs : List Value} : KeepsTo w w' (Reads w A xs) (Reads w' A xs) := ⟨fun hb h => h.below hb⟩
instance {A : Option Addr} {l : List UInt8} : KeepsTo w w' (Bytes w A l) (Bytes w' A l) := ⟨fun hb h => Reads.below h hb⟩
instance {g : Nat} {t : TypeId} {cs : Array Value} : KeepsTo w w' (Blk w g t cs) (Blk w' g t cs) := ⟨fun hb h => h.below hb h.lt⟩
instance {e : TypeId} {base : Nat} {v : Value} {l sp : List UInt8} : KeepsTo w w' (OwnB e w base v l sp) (OwnB e w' base v l sp) := ⟨fun hb h => OwnsC.ownBelow h hb⟩
instance {e : TypeId} {size base n : Nat} {v : Value} {xs sp : List Value} : KeepsTo w w' (OwnsC e size w base v n xs sp) (OwnsC e size w' base v n xs sp) := ⟨fun hb h => OwnsC.ownBelow h hb⟩
end
theorem Blk.at_ {w : World} {b : Nat} {t : TypeId} {cs : Array Value} (h : Blk w b t cs) (i : Nat) {v : Value} (hv : cs[i]? = some v) : w.cell? ⟨b, i, none⟩ = some v := (h.cell i).trans hv
theorem u8_xor_w (a b : UInt8) : bits .xor .u8 (iu8 a) (iu8 b) = iu8 (a ^^^ b) := by
  unfold iu8; rw [u8_xor_nat _ _ a.toNat_lt b.toNat_lt, UInt8.toNat_xor]
/-- An own slice of bytes, as a slice that is read. -/
theorem OwnB.open_ {e : TypeId} {w : World} {base : Nat} {v : Value} {l sp : List UInt8} (h : OwnB e w base v l sp) : ∃ A c, v = .slice A l.length c ∧ l.length ≤ c ∧ c ≤ 9223372036854775807 ∧ Bytes w A l := by
  obtain ⟨A, c, h1, h2, h3, h4, _⟩ := OwnsC.reads h
  exact ⟨A, c, h1, h2, by simpa [maxLen] using h3, h4⟩
theorem Upd.refl (g : Nat) (w : World) : Upd g w w := ⟨rfl, rfl, rfl, rfl, fun _ _ => rfl⟩
theorem Upd.trans {g : Nat} {a b c : World} (h : Upd g a b) (k : Upd g b c) : Upd g a c := ⟨k.os.trans h.os, k.tape.trans h.tape, k.output.trans h.output, k.size.trans h.size, fun x hx => (k.block x hx).trans (h.block x hx)⟩
theorem Upd.set {g : Nat} {a b : World} (h : Upd g a b) (i : Nat) (v : Value) : Upd g a (b.setCell ⟨g, i, none⟩ v) :=
  h.trans ⟨rfl, rfl, rfl, by simp [World.setCell], fun k hk => Below.heap_setCell b ⟨g, i, none⟩ v k hk⟩
theorem OwnB.at_ {e : TypeId} {w : World} {base : Nat} {v : Value} {l sp : List UInt8} (h : OwnB e w base v l sp) (hl : 0 < l.length) : ∃ g cap, v = .slice (some ⟨g, 0, none⟩) l.length cap ∧ base ≤ g ∧ Blk w g e ((l ++ sp).map u8v).toArray ∧ l.length ≤ cap ∧ cap ≤ maxLen ∧ sp.length = cap - l.length := by
  rcases h with ⟨_, h0, _, _⟩ | ⟨g, cap, rfl, hb, hg, hc, hm, _, hs⟩
  · omega
  · exact ⟨g, cap, rfl, hb, by simpa using hg, hc, hm, by simpa using hs⟩
end Go

/- How an argument of plain data comes in, whatever its type: its shape (numbers, bools, strings, slices, arrays, structs), what it says, which cells it has. Plain facts over any program. No condition. -/
namespace Go
open Go.ChangeShapes Go.WideShapes Go.RowKit
/-- A type's shape; a struct is its fields, one behind the other. -/
inductive Sh where
  | int (k : IntKind)
  | byte
  | bool
  | str
  | slice (e : Sh)
  | arr (n : Nat) (e : Sh)
  | nil
  | cons (f r : Sh)
def Sh.size : Sh → Nat
  | .int _ => 1
  | .byte => 1
  | .bool => 1
  | .str => 1
  | .slice _ => 1
  | .arr n e => n * e.size
  | .nil => 0
  | .cons f r => f.size + r.size
/-- What a value of a shape says. -/
def Sh.T : Sh → Type
  | .int _ => Int
  | .byte => UInt8
  | .bool => Bool
  | .str => ByteArray
  | .slice e => List e.T
  | .arr _ e => List e.T
  | .nil => Unit
  | .cons f r => f.T × r.T
/-- Two lists, place by place. -/
def Both {α β : Type} (R : α → β → Prop) : List α → List β → Prop
  | [], [] => True
  | a :: l, b :: m => R a b ∧ Both R l m
  | _, _ => False
theorem Both.imp {α β : Type} {R S : α → β → Prop} (h : ∀ a b, R a b → S a b) : ∀ {l : List α} {m : List β}, Both R l m → Both S l m
  | [], [], _ => trivial
  | _ :: _, _ :: _, ⟨h1, h2⟩ => ⟨h _ _ h1, Both.imp h h2⟩
theorem Both.length {α β : Type} {R : α → β → Prop} : ∀ {l : List α} {m : List β}, Both R l m → l.length = m.length
  | [], [], _ => rfl
  | _ :: _, _ :: _, ⟨_, h2⟩ => by simp [Both.length h2]
theorem Both.make {α β : Type} {R : α → β → Prop} : ∀ (m : List β), (∀ b, b ∈ m → ∃ a, R a b) → ∃ l, Both R l m
  | [], _ => ⟨[], trivial⟩
  | b :: m, h => by
    obtain ⟨a, ha⟩ := h b (by simp)
    obtain ⟨l, hl⟩ := Both.make m (fun x hx => h x (by simp [hx]))
    exact ⟨a :: l, ha, hl⟩
/-- The cells of a value of this shape. -/
def Sh.Is (w : World) : (s : Sh) → s.T → List Value → Prop
  | .int k => fun (x : Int) cs => cs = [.int k x] ∧ k.min ≤ x ∧ x ≤ k.max
  | .byte => fun (b : UInt8) cs => cs = [u8v b]
  | .bool => fun (b : Bool) cs => cs = [.bool b]
  | .str => fun (s : ByteArray) cs => cs = [.string s] ∧ s.size ≤ maxLen
  | .slice e => fun (l : List e.T) cs => ∃ A c rows, cs = [.slice A l.length c] ∧ l.length ≤ c ∧ c ≤ maxLen ∧ Both (fun d r => r.length = e.size ∧ Sh.Is w e d r) l rows ∧ Reads w A rows.flatten
  | .arr n e => fun (l : List e.T) cs => l.length = n ∧ ∃ rows, cs = rows.flatten ∧ Both (fun d r => r.length = e.size ∧ Sh.Is w e d r) l rows
  | .nil => fun _ cs => cs = []
  | .cons f r => fun (d : f.T × r.T) cs => ∃ c1 c2, cs = c1 ++ c2 ∧ c1.length = f.size ∧ Sh.Is w f d.1 c1 ∧ Sh.Is w r d.2 c2
theorem Sh.Is.below {w w' : World} (hb : Below w.heap.size w w') : ∀ (s : Sh) (d : s.T) (cs : List Value), s.Is w d cs → s.Is w' d cs
  | .int _, _, _, h => h
  | .byte, _, _, h => h
  | .bool, _, _, h => h
  | .str, _, _, h => h
  | .slice e, _, _, h => by
    obtain ⟨A, c, rows, h1, h2, h3, h4, h5⟩ := h
    exact ⟨A, c, rows, h1, h2, h3, h4.imp fun a b hh => ⟨hh.1, Sh.Is.below hb e a b hh.2⟩, h5.below hb⟩
  | .arr _ e, _, _, h => by
    obtain ⟨h0, rows, h1, h4⟩ := h
    exact ⟨h0, rows, h1, h4.imp fun a b hh => ⟨hh.1, Sh.Is.below hb e a b hh.2⟩⟩
  | .nil, _, _, h => h
  | .cons f r, _, _, h => by
    obtain ⟨c1, c2, h1, h2, h3, h4⟩ := h
    exact ⟨c1, c2, h1, h2, Sh.Is.below hb f _ _ h3, Sh.Is.below hb r _ _ h4⟩
instance {w w' : World} {s : Sh} {d : s.T} {cs : List Value} : KeepsTo w w' (s.Is w d cs) (s.Is w' d cs) := ⟨fun hb h => Sh.Is.below hb s d cs h⟩
theorem Sh.Is.length {w : World} : ∀ (s : Sh) (d : s.T) (cs : List Value), s.Is w d cs → cs.length = s.size
  | .int _, _, _, h => by rw [h.1]; rfl
  | .byte, _, _, h => by rw [h]; rfl
  | .bool, _, _, h => by rw [h]; rfl
  | .str, _, _, h => by rw [h.1]; rfl
  | .slice e, _, _, h => by
    obtain ⟨A, c, rows, h1, _⟩ := h
    rw [h1]; rfl
  | .arr n e, _, _, h => by
    obtain ⟨h0, rows, rfl, h4⟩ := h
    have key : ∀ (l : List e.T) (rows : List (List Value)), Both (fun d r => r.length = e.size ∧ Sh.Is w e d r) l rows → rows.flatten.length = l.length * e.size := by
      intro l
      induction l with
      | nil => intro rows h; cases rows with
        | nil => simp
        | cons _ _ => exact h.elim
      | cons a l ih => intro rows h; cases rows with
        | nil => exact h.elim
        | cons r rows => simp only [List.flatten_cons, List.length_append, h.1.1, ih rows h.2, List.length_cons]; rw [Nat.add_mul]; omega
    rw [key _ _ h4, h0]; rfl
  | .nil, _, _, h => by rw [h]; rfl
  | .cons f r, _, _, h => by
    obtain ⟨c1, c2, rfl, h2, h3, h4⟩ := h
    rw [List.length_append, h2, Sh.Is.length r _ _ h4]; rfl
/-- Does a type of the program have this shape (first); are these the fields from this cell on (second)? -/
def Sh.fits (P : Program) : Sh → (TypeId → Bool) × (List Field → Nat → Bool)
  | .int k => (fun t => match P.underlying t with | some (.int j) => j == k | _ => false, fun _ _ => false)
  | .byte => (fun t => match P.underlying t with | some (.int j) => j == .u8 | _ => false, fun _ _ => false)
  | .bool => (fun t => match P.underlying t with | some .bool => true | _ => false, fun _ _ => false)
  | .str => (fun t => match P.underlying t with | some .string => true | _ => false, fun _ _ => false)
  | .slice e => (fun t => match P.underlying t with | some (.slice u) => (e.fits P).1 u && P.cellsOf u == e.size | _ => false, fun _ _ => false)
  | .arr n e => (fun t => match P.underlying t with | some (.array m u) => m == n && (e.fits P).1 u && P.cellsOf u == e.size && P.cellsOf t == n * e.size | _ => false, fun _ _ => false)
  | .nil => (fun t => match P.underlying t with | some (.struct fs) => fs.toList.isEmpty && P.cellsOf t == 0 | _ => false, fun fs _ => fs.isEmpty)
  | .cons f r => (fun t => match P.underlying t with
      | some (.struct fs) => (match fs.toList with | fd :: rest => fd.offset == 0 && P.cellsOf fd.type == f.size && (f.fits P).1 fd.type && (r.fits P).2 rest f.size | [] => false) && P.cellsOf t == f.size + r.size
      | _ => false,
    fun fs off => match fs with | fd :: rest => fd.offset == off && P.cellsOf fd.type == f.size && (f.fits P).1 fd.type && (r.fits P).2 rest (off + f.size) | [] => false)
section
variable {H : Type} {enc : TypeId × Value → H} {P : Program} {w : World} {base : Nat} {spare : Nat → Bool} {held : Bool}
/-- What each field reads as is known. -/
def FieldsRead (enc : TypeId × Value → H) (P : Program) (w : World) (base : Nat) (spare : Nat → Bool) (held : Bool) (n : Nat) (fs : List Field) (cs : List Value) : Prop :=
  ∀ f, f ∈ fs → ∃ x, DataW.trod enc P w base spare held n f.type ((cs.drop f.offset).take (P.cellsOf f.type)) = some x
theorem wf_u8' {z : Int} (h : (Lit.int .u8 z).wf = true) : Value.int .u8 z = u8v (UInt8.ofNat z.toNat) := by
  simp [Lit.wf, IntKind.min, IntKind.max, IntKind.signed, IntKind.bits] at h
  unfold u8v
  rw [iu8_ofNat _ (by omega)]
  congr 1
  omega
theorem wf_bounds {k : IntKind} {n : Int} (h : (Lit.int k n).wf = true) : k.min ≤ n ∧ n ≤ k.max := by
  simpa [Lit.wf] using h
theorem Sh.opened : ∀ s : Sh, (∀ (t : TypeId) (fuel : Nat) (cs : List Value) (x : DataW H × List MemPlace), (s.fits P).1 t = true → DataW.trod enc P w base spare held fuel t cs = some x → ∃ d : s.T, s.Is w d cs) ∧
    (∀ (fs : List Field) (off n : Nat) (cs : List Value), (s.fits P).2 fs off = true → cs.length = off + s.size → FieldsRead enc P w base spare held n fs cs → ∃ d : s.T, s.Is w d (cs.drop off)) := by
  have none2 : ∀ (fs : List Field) (off : Nat), (fun (_ : List Field) (_ : Nat) => false) fs off = true → False := fun _ _ h => by cases h
  intro s
  induction s with
  | int k =>
    refine ⟨fun t fuel cs x hf h => ?_, fun fs off n cs hf => (none2 fs off hf).elim⟩
    simp only [Sh.fits] at hf
    split at hf
    · rename_i j hu
      obtain rfl : j = k := by simpa using hf
      obtain ⟨n, rfl, _, hw⟩ := DataW.trod_int hu h
      exact ⟨n, rfl, wf_bounds hw⟩
    · cases hf
  | byte =>
    refine ⟨fun t fuel cs x hf h => ?_, fun fs off n cs hf => (none2 fs off hf).elim⟩
    simp only [Sh.fits] at hf
    split at hf
    · rename_i j hu
      obtain rfl : j = .u8 := by simpa using hf
      obtain ⟨n, rfl, _, hw⟩ := DataW.trod_int hu h
      exact ⟨UInt8.ofNat n.toNat, by rw [wf_u8' hw]; rfl⟩
    · cases hf
  | bool =>
    refine ⟨fun t fuel cs x hf h => ?_, fun fs off n cs hf => (none2 fs off hf).elim⟩
    simp only [Sh.fits] at hf
    split at hf
    · rename_i hu
      obtain ⟨b, rfl, _⟩ := DataW.trod_bool hu h
      exact ⟨b, rfl⟩
    · cases hf
  | str =>
    refine ⟨fun t fuel cs x hf h => ?_, fun fs off n cs hf => (none2 fs off hf).elim⟩
    simp only [Sh.fits] at hf
    split at hf
    · rename_i hu
      obtain ⟨b, rfl, _, hm⟩ := DataW.trod_string hu h
      exact ⟨b, rfl, hm⟩
    · cases hf
  | slice e ih =>
    refine ⟨fun t fuel cs x hf h => ?_, fun fs off n cs hf => (none2 fs off hf).elim⟩
    simp only [Sh.fits] at hf
    split at hf
    · rename_i u hu
      simp only [Bool.and_eq_true, beq_iff_eq] at hf
      rcases Go.Deep.open_slice hu h with ⟨rfl, _⟩ | ⟨a, len, cap, m, n, D, Pl, rfl, _, hl, hm, hmm, _, hi⟩
      · exact ⟨([] : List e.T), none, 0, [], rfl, Nat.le_refl _, by simp [maxLen], trivial, Reads.nil _ _⟩
      · have hlm : len ≤ m := by rw [hmm]; split <;> omega
        rw [hf.2] at hi
        -- the rows, one an element
        have hrow : ∀ i, i < len → ∃ r : List Value, r.length = e.size ∧ (∃ d, e.Is w d r) ∧ ∀ j, j < e.size → w.cell? (a.add (i * e.size + j)) = r[j]? := fun i hil => by
          obtain ⟨r, h1, h2⟩ := hi i (by omega)
          obtain ⟨_, hlen, hc⟩ := World.cells?_some h1
          exact ⟨r, hlen, ih.1 u n r _ hf.1 h2, fun j hj => by rw [← hc j hj, Go.Deep.add_add]⟩
        have hrows : ∃ rows : List (List Value), rows.length = len ∧ ∀ i r, rows[i]? = some r → r.length = e.size ∧ (∃ d, e.Is w d r) ∧ ∀ j, j < e.size → w.cell? (a.add (i * e.size + j)) = r[j]? := by
          clear hi hmm hl hm
          have : ∀ k, k ≤ len → ∃ rows : List (List Value), rows.length = k ∧ ∀ i r, rows[i]? = some r → r.length = e.size ∧ (∃ d, e.Is w d r) ∧ ∀ j, j < e.size → w.cell? (a.add (i * e.size + j)) = r[j]? := by
            intro k
            induction k with
            | zero => exact fun _ => ⟨[], rfl, fun i r h => by simp at h⟩
            | succ k ihk =>
              intro hk
              obtain ⟨rows, h1, h2⟩ := ihk (by omega)
              obtain ⟨r, hr⟩ := hrow k (by omega)
              refine ⟨rows ++ [r], by simp [h1], fun i r' h' => ?_⟩
              rcases Nat.lt_or_ge i k with hlt | hge
              · rw [List.getElem?_append_left (by omega)] at h'; exact h2 i r' h'
              · rw [List.getElem?_append_right (by omega)] at h'
                rcases Nat.eq_or_lt_of_le hge with heq | hlt
                · subst heq; rw [h1] at h'; simp at h'; subst h'; exact hr
                · rw [List.getElem?_eq_none (by simp; omega)] at h'; cases h'
          exact this len (Nat.le_refl _)
        obtain ⟨rows, hrl, hr⟩ := hrows
        obtain ⟨l, hb⟩ := Both.make (R := fun d r => r.length = e.size ∧ Sh.Is w e d r) rows (fun r hmem => by
          obtain ⟨i, hil, rfl⟩ := List.mem_iff_getElem.1 hmem
          obtain ⟨h1, ⟨d, h2⟩, _⟩ := hr i rows[i] (List.getElem?_eq_getElem hil)
          exact ⟨d, h1, h2⟩)
        have hll : l.length = len := by rw [hb.length, hrl]
        refine ⟨l, some a, cap, rows, by rw [hll], by omega, hm, hb, fun hne => ?_⟩
        -- flattened
        have hflat : ∀ (rows : List (List Value)) (k : Nat), (∀ i r, rows[i]? = some r → r.length = e.size ∧ ∀ j, j < e.size → w.cell? (a.add ((k + i) * e.size + j)) = r[j]?) →
            ∀ j v, rows.flatten[j]? = some v → w.cell? (a.add (k * e.size + j)) = some v := by
          intro rows
          induction rows with
          | nil => intro k _ j v h; simp at h
          | cons r rows ihr =>
            intro k hk j v hv
            obtain ⟨h1, h2⟩ := hk 0 r rfl
            simp only [List.flatten_cons] at hv
            rcases Nat.lt_or_ge j r.length with hlt | hge
            · rw [List.getElem?_append_left hlt] at hv
              have := h2 j (by omega)
              rw [Nat.add_zero] at this; rw [this, hv]
            · rw [List.getElem?_append_right hge] at hv
              have := ihr (k + 1) (fun i r' h' => by
                have := hk (i + 1) r' (by simpa using h')
                rw [show k + 1 + i = k + (i + 1) by omega]; exact this) (j - r.length) v hv
              rw [← this]; congr 2; rw [Nat.add_mul, h1]; omega
        have hcells := hflat rows 0 (fun i r h' => ⟨(hr i r h').1, by simpa using (hr i r h').2.2⟩)
        obtain ⟨v0, hv0⟩ : ∃ v, rows.flatten[0]? = some v := by
          cases hfl : rows.flatten with
          | nil => exact absurd hfl hne
          | cons v _ => exact ⟨v, rfl⟩
        have h00 := hcells 0 v0 hv0
        obtain ⟨ab, ao, spot⟩ := a
        have hspot : spot = none := by simpa [Addr.add] using World.cell?_spot h00
        subst hspot
        refine ⟨ab, ao, rfl, fun j v hv => ?_⟩
        have := hcells j v hv
        simpa [Addr.add_lit] using this
    · cases hf
  | arr n e ih =>
    refine ⟨fun t fuel cs x hf h => ?_, fun fs off n cs hf => (none2 fs off hf).elim⟩
    simp only [Sh.fits] at hf
    split at hf
    · rename_i m u hu
      simp only [Bool.and_eq_true, beq_iff_eq] at hf
      obtain ⟨⟨⟨rfl, hfe⟩, hce⟩, hct⟩ := hf
      obtain ⟨xs, k, _, _, hlen, hxl, hi⟩ := DataW.trod_array hu h
      rw [hce] at hi
      rw [hct] at hlen
      have key : ∀ (k2 : Nat) (cs : List Value), cs.length = k2 * e.size → (∀ i, i < k2 → ∃ d, e.Is w d ((cs.drop (i * e.size)).take e.size)) → ∃ l : List e.T, l.length = k2 ∧ ∃ rows : List (List Value), cs = rows.flatten ∧ Both (fun d r => r.length = e.size ∧ Sh.Is w e d r) l rows := by
        intro k2
        induction k2 with
        | zero => intro cs hl _; exact ⟨[], rfl, [], by rw [Nat.zero_mul] at hl; simpa using hl, trivial⟩
        | succ k2 ihk =>
          intro cs hl hall
          have hle : e.size ≤ cs.length := by rw [hl, Nat.add_mul]; omega
          obtain ⟨d, hd⟩ := hall 0 (by omega)
          obtain ⟨l, hll, rows, hr, hb⟩ := ihk (cs.drop e.size) (by rw [List.length_drop, hl, Nat.add_mul]; omega) (fun i hik => by
            have := hall (i + 1) (by omega)
            rw [List.drop_drop]
            rw [show e.size + i * e.size = (i + 1) * e.size by rw [Nat.add_mul]; omega]; exact this)
          refine ⟨d :: l, by simp [hll], cs.take e.size :: rows, by rw [List.flatten_cons, ← hr, List.take_append_drop], ⟨by rw [List.length_take]; omega, by simpa using hd⟩, hb⟩
      obtain ⟨l, h1, h2⟩ := key m cs hlen (fun i him => by
        have := hi i him
        rw [List.getElem?_eq_getElem (by omega)] at this
        exact ih.1 u k _ _ hfe this)
      exact ⟨l, h1, h2⟩
    · cases hf
  | nil =>
    refine ⟨fun t fuel cs x hf h => ?_, fun fs off n cs hf hl hr => ?_⟩
    · simp only [Sh.fits] at hf
      split at hf
      · rename_i fs hu
        simp only [Bool.and_eq_true, beq_iff_eq] at hf
        obtain ⟨xs, k, _, _, hlen, _⟩ := DataW.trod_struct hu h
        rw [hf.2] at hlen
        exact ⟨(), List.eq_nil_of_length_eq_zero hlen⟩
      · cases hf
    · refine ⟨(), ?_⟩
      simp only [Sh.size, Nat.add_zero] at hl
      show cs.drop off = []
      rw [← hl]; simp
  | cons f r ihf ihr =>
    have key : ∀ (fs : List Field) (off n : Nat) (cs : List Value), ((Sh.cons f r).fits P).2 fs off = true → cs.length = off + (Sh.cons f r).size → FieldsRead enc P w base spare held n fs cs → ∃ d : (Sh.cons f r).T, (Sh.cons f r).Is w d (cs.drop off) := by
      intro fs off n cs hf hl hr
      simp only [Sh.fits] at hf
      simp only [Sh.size] at hl
      cases fs with
      | nil => cases hf
      | cons fd rest =>
        simp only [Bool.and_eq_true, beq_iff_eq] at hf
        obtain ⟨⟨⟨h1, h2⟩, h3⟩, h4⟩ := hf
        obtain ⟨x, hx⟩ := hr fd (by simp)
        rw [h1, h2] at hx
        obtain ⟨d1, hd1⟩ := ihf.1 fd.type n _ x h3 hx
        obtain ⟨d2, hd2⟩ := ihr.2 rest (off + f.size) n cs h4 (by omega) (fun f' h' => hr f' (by simp [h']))
        refine ⟨(d1, d2), (cs.drop off).take f.size, cs.drop (off + f.size), ?_, ?_, hd1, hd2⟩
        · rw [← List.drop_drop, List.take_append_drop]
        · rw [List.length_take, List.length_drop]; omega
    refine ⟨fun t fuel cs x hf h => ?_, key⟩
    simp only [Sh.fits] at hf
    split at hf
    · rename_i fs hu
      simp only [Bool.and_eq_true, beq_iff_eq] at hf
      obtain ⟨xs, n, _, _, hlen, hxl, hi⟩ := DataW.trod_struct hu h
      rw [hf.2] at hlen
      have := key fs.toList 0 n cs (by simp only [Sh.fits]; split at hf <;> simp_all) (by simp only [Sh.size]; omega) (fun f' h' => by
        obtain ⟨i, hil, rfl⟩ := List.mem_iff_getElem.1 h'
        have := hi i fs.toList[i] (by simp)
        have hix : i < xs.length := by rw [hxl]; simpa using hil
        rw [List.getElem?_eq_getElem hix] at this
        exact ⟨_, this⟩)
      simpa using this
    · cases hf
/-- An argument: its cells and what they say. -/
theorem Sh.open_ (s : Sh) {t : TypeId} {v : Value} {d : DataW H} {p : List MemPlace} (hf : (s.fits P).1 t = true) (h : DataW.Trod enc P w base spare held t v d p) : ∃ x : s.T, s.Is w x v.cells.toList := by
  obtain ⟨fuel, h⟩ := h
  exact (Sh.opened s).1 t fuel v.cells.toList _ hf h
end
/-! ### What it comes to for the shapes that are met most -/
theorem both_bytes {w : World} : ∀ {l : List UInt8} {rows : List (List Value)}, Both (fun (d : UInt8) r => r.length = 1 ∧ Sh.Is w .byte d r) l rows → rows.flatten = l.map u8v
  | [], [], _ => rfl
  | a :: l, r :: rows, ⟨h1, h2⟩ => by
    have hr : r = [u8v a] := h1.2
    rw [List.flatten_cons, hr, both_bytes h2]; rfl
theorem Sh.Is.bytes {w : World} {l : List UInt8} {cs : List Value} (h : (Sh.slice .byte).Is w l cs) : ∃ A c, cs = [.slice A l.length c] ∧ l.length ≤ c ∧ c ≤ 9223372036854775807 ∧ Bytes w A l := by
  obtain ⟨A, c, rows, h1, h2, h3, h4, h5⟩ := h
  refine ⟨A, c, h1, h2, by simpa [maxLen] using h3, ?_⟩
  unfold Bytes
  rw [← both_bytes h4]; exact h5
/-- The rows of a slice's elements, of one size each, one by one. -/
theorem both_at {α : Type} {R : α → List Value → Prop} {k : Nat} : ∀ {l : List α} {rows : List (List Value)}, Both (fun d r => r.length = k ∧ R d r) l rows → ∀ (i : Nat) (hi : i < l.length), ∃ r, r.length = k ∧ R l[i] r ∧ ∀ j, j < k → rows.flatten[i * k + j]? = r[j]?
  | [], _, _, i, hi => absurd hi (by simp)
  | a :: l, [], h, _, _ => h.elim
  | a :: l, r :: rows, ⟨h1, h2⟩, 0, _ => ⟨r, h1.1, h1.2, fun j hj => by
      rw [List.flatten_cons, Nat.zero_mul, Nat.zero_add, List.getElem?_append_left (by omega)]⟩
  | a :: l, r :: rows, ⟨h1, h2⟩, i + 1, hi => by
    obtain ⟨r', e1, e2, e3⟩ := both_at h2 i (by simpa using hi)
    refine ⟨r', e1, by simpa using e2, fun j hj => ?_⟩
    rw [List.flatten_cons, List.getElem?_append_right (by rw [h1.1, Nat.add_mul]; omega), ← e3 j hj]
    congr 1
    rw [h1.1, Nat.add_mul]; omega
end Go

/- What every statement's row asks of the program's tables, and how arguments of bytes come in. Plain facts of this program. No condition. -/
namespace Go.Proofs.YtfoegmjpfkmggaaGreatDoor
open Go.ChangeShapes Go.WideShapes Go.ChangeAt Go.RowKit
theorem Tryz.own : ownKnob Tryz.prog.godebug = none := by kernel_rfl
theorem Tryz.laidOut : laidOutB Tryz.prog = true := by kernel_rfl
end Go.Proofs.YtfoegmjpfkmggaaGreatDoor
namespace Go
open Go.ChangeShapes Go.WideShapes Go.ChangeAt Go.RowKit
section
variable {P : Program} {W : World} {t : TypeId} {base : Nat} {v : Value}
theorem arg_slice {u : TypeId} {e : Sh} {l : List e.T} (ht : P.underlying t = some (.slice u)) (hval : Value.okWide P W .any base t v) (h : (Sh.slice e).Is W l v.cells.toList) :
    ∃ A c rows, v = .slice A l.length c ∧ l.length ≤ c ∧ c ≤ 9223372036854775807 ∧ Both (fun d r => r.length = e.size ∧ Sh.Is W e d r) l rows ∧ Reads W A rows.flatten := by
  obtain ⟨a, len, cap, rfl⟩ := okWide_slice ht hval
  obtain ⟨A, c, rows, h1, h2, h3, h4, h5⟩ := h
  exact ⟨A, c, rows, by simpa [Value.cells] using h1, h2, by simpa [maxLen] using h3, h4, h5⟩
theorem arg_int {k : IntKind} {x : Int} (ht : P.underlying t = some (.int k)) (hval : Value.okWide P W .any base t v) (h : (Sh.int k).Is W x v.cells.toList) : v = .int k x ∧ k.min ≤ x ∧ x ≤ k.max := by
  obtain ⟨n, rfl⟩ := okWide_int ht hval
  refine ⟨by simpa [Value.cells] using h.1, h.2⟩
end
end Go
