/- Words of this proof for bytes, 32-bit words and blocks of memory: plain facts over any program. No condition. -/
import Derived.WalkKit
import Derived.WalkSpells
import Derived.WalkLawsBesides
import Derived.Deep.Draws
import Derived.Deep.QuietTactic
import Derived.BigQuiet
import Derived.StillTailTactics
import Derived.Lib.Hide
import Derived.Deep.WholeRow
namespace Go
open Go.RowKit

/-! ### 32-bit words and bytes as Go's integers -/
def iu32 (x : UInt32) : Int := (x.toNat : Int)
def iu8 (x : UInt8) : Int := (x.toNat : Int)
theorem iu32_lo (x : UInt32) : 0 ≤ iu32 x := by unfold iu32; omega
theorem iu32_hi (x : UInt32) : iu32 x < 4294967296 := by have := x.toNat_lt; unfold iu32; omega
theorem iu8_lo (x : UInt8) : 0 ≤ iu8 x := by unfold iu8; omega
theorem iu8_hi (x : UInt8) : iu8 x < 256 := by have := x.toNat_lt; unfold iu8; omega
theorem iu32_inj {x y : UInt32} (h : iu32 x = iu32 y) : x = y := by unfold iu32 at h; exact UInt32.toNat_inj.1 (by omega)
theorem iu8_inj {x y : UInt8} (h : iu8 x = iu8 y) : x = y := by unfold iu8 at h; exact UInt8.toNat_inj.1 (by omega)
theorem iu8_ofNat (n : Nat) (h : n < 256) : iu8 (UInt8.ofNat n) = (n : Int) := by unfold iu8; rw [UInt8.toNat_ofNat_of_lt' (by simpa [UInt8.size] using h)]
theorem iu8_ofNat_mod (n : Nat) : iu8 (UInt8.ofNat (n % 256)) = (n : Int) % 256 := by rw [iu8_ofNat _ (Nat.mod_lt _ (by omega))]; omega
@[go_sem] theorem u32_xor_w (a b : UInt32) : bits .xor .u32 (iu32 a) (iu32 b) = iu32 (a ^^^ b) := by
  unfold iu32; rw [u32_xor_nat _ _ a.toNat_lt b.toNat_lt, UInt32.toNat_xor]
@[go_sem] theorem u32_or_w (a b : UInt32) : bits .or .u32 (iu32 a) (iu32 b) = iu32 (a ||| b) := by
  unfold iu32; rw [u32_or_nat _ _ a.toNat_lt b.toNat_lt, UInt32.toNat_or]
@[go_sem] theorem u32_and_w (a b : UInt32) : bits .and .u32 (iu32 a) (iu32 b) = iu32 (a &&& b) := by
  unfold iu32; rw [u32_and_nat _ _ a.toNat_lt b.toNat_lt, UInt32.toNat_and]
@[go_sem] theorem u32_add_w (a b : UInt32) : (iu32 a + iu32 b) % 4294967296 = iu32 (a + b) := by
  unfold iu32; rw [UInt32.toNat_add]; omega
@[go_sem] theorem u32_add3_w (a b c : UInt32) : (iu32 a + iu32 b + iu32 c) % 4294967296 = iu32 (a + b + c) := by
  rw [← u32_add_w (a + b) c, ← u32_add_w a b]; omega
@[go_sem] theorem u32_add4_w (a b c d : UInt32) : (iu32 a + iu32 b + iu32 c + iu32 d) % 4294967296 = iu32 (a + b + c + d) := by
  rw [← u32_add_w (a + b + c) d, ← u32_add3_w a b c]; omega
@[go_sem] theorem u32_add5_w (a b c d e : UInt32) : (iu32 a + iu32 b + iu32 c + iu32 d + iu32 e) % 4294967296 = iu32 (a + b + c + d + e) := by
  rw [← u32_add_w (a + b + c + d) e, ← u32_add4_w a b c d]; omega
theorem u32_shr_nat (x : UInt32) (n : Nat) (h : n < 32) : (x >>> UInt32.ofNat n).toNat = x.toNat / 2 ^ n := by
  have h1 : (UInt32.ofNat n).toNat = n := UInt32.toNat_ofNat_of_lt' (by simp [UInt32.size]; omega)
  rw [UInt32.toNat_shiftRight, h1, Nat.mod_eq_of_lt h, Nat.shiftRight_eq_div_pow]
theorem u32_shl_nat (x : UInt32) (n : Nat) (h : n < 32) : (x <<< UInt32.ofNat n).toNat = x.toNat * 2 ^ n % 4294967296 := by
  have h1 : (UInt32.ofNat n).toNat = n := UInt32.toNat_ofNat_of_lt' (by simp [UInt32.size]; omega)
  rw [UInt32.toNat_shiftLeft, h1, Nat.mod_eq_of_lt h, Nat.shiftLeft_eq]
theorem u32_shr_w (x : UInt32) (n : Nat) (h : n < 32) : iu32 x / 2 ^ n = iu32 (x >>> UInt32.ofNat n) := by
  unfold iu32; rw [u32_shr_nat x n h]; simp
theorem u32_shl_w (x : UInt32) (n : Nat) (h : n < 32) : iu32 x * 2 ^ n % 4294967296 = iu32 (x <<< UInt32.ofNat n) := by
  unfold iu32; rw [u32_shl_nat x n h]; simp

@[go_sem] theorem u8_u32_w (x : UInt8) : iu8 x % 4294967296 = iu32 x.toUInt32 := by
  have := x.toNat_lt; unfold iu8 iu32; rw [UInt8.toNat_toUInt32]; omega
@[go_sem] theorem u32_shl24_w (x : UInt32) : iu32 x * (16777216 : Int) % (4294967296 : Int) = iu32 (x <<< (24 : UInt32)) := u32_shl_w x 24 (by omega)
@[go_sem] theorem u32_shl16_w (x : UInt32) : iu32 x * (65536 : Int) % (4294967296 : Int) = iu32 (x <<< (16 : UInt32)) := u32_shl_w x 16 (by omega)
@[go_sem] theorem u32_shl8_w (x : UInt32) : iu32 x * (256 : Int) % (4294967296 : Int) = iu32 (x <<< (8 : UInt32)) := u32_shl_w x 8 (by omega)

@[go_sem] theorem u32_shr3_w (x : UInt32) : iu32 x / (8 : Int) = iu32 (x >>> (3 : UInt32)) := u32_shr_w x 3 (by omega)
@[go_sem] theorem u32_shr10_w (x : UInt32) : iu32 x / (1024 : Int) = iu32 (x >>> (10 : UInt32)) := u32_shr_w x 10 (by omega)
@[go_sem] theorem u32_not_w (x : UInt32) : 4294967295 - iu32 x = iu32 (~~~x) := by
  have := x.toNat_lt; unfold iu32; rw [UInt32.toNat_not]; simp [UInt32.size]; omega

@[go_sem] theorem u32_xor_max_w (x : UInt32) : bits .xor .u32 IntKind.u32.max (iu32 x) = iu32 (~~~x) := by
  have e : IntKind.u32.max = iu32 (-1) := rfl
  rw [e, u32_xor_w]
  congr 1

/-! ### Blocks of memory: 'Blk w b t cs': block b is just the cells cs -/
def Blk (w : World) (b : Nat) (t : TypeId) (cs : Array Value) : Prop := w.heap[b]? = some (.cells cs t (0, 0))
section
variable {w w' : World} {b : Nat} {t : TypeId} {cs : Array Value}
theorem Blk.lt (h : Blk w b t cs) : b < w.heap.size := by
  rcases Nat.lt_or_ge b w.heap.size with hlt | hge
  · exact hlt
  · unfold Blk at h; rw [Array.getElem?_eq_none hge] at h; cases h
theorem Blk.cell (h : Blk w b t cs) (i : Nat) : w.cell? ⟨b, i, none⟩ = cs[i]? := cell_of_row w b i cs t (0, 0) h
theorem Blk.frozen (h : Blk w b t cs) (i : Nat) : w.frozen? ⟨b, i, none⟩ = false := by
  unfold Blk at h; simp [World.frozen?, h]
theorem Blk.new (w : World) (t : TypeId) (cs : Array Value) : Blk (w.alloc (.cells cs t)) w.heap.size t cs := heap_alloc_new w _
theorem Blk.new' (w : World) (t : TypeId) (cs : Array Value) {n : Nat} (h : n = w.heap.size) : Blk (w.alloc (.cells cs t)) n t cs := by subst h; exact heap_alloc_new w _
theorem Blk.drew (h : Blk w b t cs) : Blk w.drew b t cs := h
theorem Blk.drewN (h : Blk w b t cs) (n : Nat) : Blk (w.drewN n) b t cs := h
theorem Blk.alloc (h : Blk w b t cs) (o : Obj) : Blk (w.alloc o) b t cs := (Below.heap_alloc w o b h.lt).trans h
theorem Blk.set_ (h : Blk w b t cs) (i : Nat) (u : Value) : Blk (w.setCell ⟨b, i, none⟩ u) b t (cs.setIfInBounds i u) := by
  unfold Blk at h ⊢
  simp [World.setCell, Array.getElem?_modify, h]
theorem Blk.far (h : Blk w b t cs) {p : Addr} (hp : b ≠ p.block) (u : Value) : Blk (w.setCell p u) b t cs := (Below.heap_setCell w p u b hp).trans h
theorem Blk.off (h : Blk w b t cs) {c i : Nat} (hne : b ≠ c) (u : Value) : Blk (w.setCell ⟨c, i, none⟩ u) b t cs := h.far (p := ⟨c, i, none⟩) hne u
theorem Blk.below {B : Nat} (h : Blk w b t cs) (hb : Below B w w') (hg : b < B) : Blk w' b t cs := (hb.block b hg).trans h
theorem Blk.sub {cs' : Array Value} (h : Blk w b t cs) (e : cs = cs') : Blk w b t cs' := e ▸ h
end


/-- Block g alone may have been written, no block has come. -/
structure Upd (g : Nat) (w w' : World) : Prop where
  os : w'.os = w.os
  tape : w'.tape = w.tape
  output : w'.output = w.output
  size : w'.heap.size = w.heap.size
  block : ∀ k, k ≠ g → w'.heap[k]? = w.heap[k]?
theorem Upd.setRow (w : World) (g : Nat) (cs : Array Value) : Upd g w (w.setRow g cs) := ⟨rfl, rfl, rfl, by simp, fun k hk => setRow_other w g k cs hk⟩
theorem Blk.setRow {w : World} {g : Nat} {t : TypeId} {cs : Array Value} (h : Blk w g t cs) (cs' : Array Value) : Blk (w.setRow g cs') g t cs' := setRow_heap w g cs cs' t _ h
theorem Blk.upd {w w' : World} {b g : Nat} {t : TypeId} {cs : Array Value} (h : Blk w b t cs) (u : Upd g w w') (hne : b ≠ g) : Blk w' b t cs := (u.block b hne).trans h
theorem RowKit.Below.upd {B g : Nat} {a w w' : World} (h : Below B a w) (u : Upd g w w') (hg : B ≤ g) : Below B a w' :=
  h.trans ⟨u.os, u.tape, u.output, by rw [u.size]; exact Nat.le_refl _, fun k hk => u.block k (by omega)⟩

/-! ### A whole array or struct out of, and into, a block -/
section
variable {P : Program} {w : World} {Q : Exit → Act → World → Prop}
theorem wpList_load_blk {ops : Array Oper} {rest : List Oper} {o : Oper} {a : Act} {g : Nat} {t : TypeId} {cs : Array Value} (hb : Blk w g t cs) (hgd : o.guard = none) (ty : TypeId) (x : Operand) (ho : o.op = .load ty x)
    (hx : a.eval x = .pointer (some ⟨g, 0, none⟩)) (d : TypeDesc)
    (hu : P.underlying ty = some d) (hd : (match d with | .struct _ | .array _ _ => true | _ => false) = true) {n : Nat} (hi : (P.info? ty).map (·.size) = some n) (hn : cs.size = n)
    (h : wpList P ops Q rest (a.put o.dst (.agg cs)) w) : wpList P ops Q (o :: rest) a w :=
  wpList_load_row hgd ty x ho g hx t cs (0, 0) d hb hu hd (hn ▸ hi) h
theorem wp_store_blk {o : Oper} {a : Act} {K : Act → World → Prop} {g : Nat} {t : TypeId} {cs : Array Value} (hb : Blk w g t cs) (ty : TypeId) (x y : Operand) (ho : o.op = .store ty x y)
    (hx : a.eval x = .pointer (some ⟨g, 0, none⟩)) (cs' : Array Value) (hy : a.eval y = .agg cs') {n : Nat} (hi : (P.info? ty).map (·.size) = some n) (hs : cs.size = n) (hs' : cs'.size = n) (h1 : cs'.all (·.oneCell') = true)
    (h : ∀ w', Blk w' g t cs' → Upd g w w' → K (a.put o.dst undef) w') : o.wp P a w K Q := by
  have hr := run_storeVar_row (P := P) w g t ty cs cs' hb (hs'.symm ▸ hi) (hs.trans hs'.symm) h1
  unfold Oper.wp execOp
  simp only [ho, hx, hy, Instr.storeAt, Instr.sureAddr, Sem.run_bind, Sem.run_pure, Result.andThen_ok, hr]
  exact h _ (hb.setRow cs') (Upd.setRow w g cs')
theorem wpList_store_blk {ops : Array Oper} {rest : List Oper} {o : Oper} {a : Act} {g : Nat} {t : TypeId} {cs : Array Value} (hb : Blk w g t cs) (hgd : o.guard = none) (ty : TypeId) (x y : Operand) (ho : o.op = .store ty x y)
    (hx : a.eval x = .pointer (some ⟨g, 0, none⟩)) (cs' : Array Value) (hy : a.eval y = .agg cs') {n : Nat} (hi : (P.info? ty).map (·.size) = some n) (hs : cs.size = n) (hs' : cs'.size = n) (h1 : cs'.all (·.oneCell') = true)
    (h : ∀ w', Blk w' g t cs' → Upd g w w' → wpList P ops Q rest (a.put o.dst undef) w') : wpList P ops Q (o :: rest) a w :=
  wpList_plain hgd fun _ hK => wp_store_blk hb ty x y ho hx cs' hy hi hs hs' h1 fun w' h1 h2 => hK _ _ (h w' h1 h2)
end

/-- An operation that yields a value in the world at hand, by a run that the kernel can reckon. -/
theorem wpList_run {P : Program} {w : World} {Q : Exit → Act → World → Prop} {ops : Array Oper} {rest : List Oper} {o : Oper} {a : Act} (v : Value) (hgd : o.guard = none) (hr : (execOp a.eval o).run P w = .ok (.value v) w)
    (h : wpList P ops Q rest (a.put o.dst v) w) : wpList P ops Q (o :: rest) a w :=
  wpList_plain hgd fun _ hK => by unfold Oper.wp; rw [hr]; exact hK _ _ h

/-! ### A region that draws its order: all but the last few operations only read; those come in one forced order -/
section
variable {P : Program} {ops : Array Oper} {w : World}
theorem still_of_quiet {o : Oper} {a : Act} {K K' : Act → Prop} (hk : ∀ a, K a → K' a) (h : o.quiet P a (fun w' => w' = w) K) : o.still P a w K' := by
  obtain ⟨v, h1, h2⟩ := h
  have h3 := h1 w rfl
  unfold Oper.quietAt at h3
  unfold Oper.still
  generalize (execOp a.eval o).run P w = r at *
  cases r with
  | ok n w' =>
    cases n <;> simp only [Oper.quietUpon] at h3 <;> simp only [Oper.stillUpon]
    case value u => obtain ⟨e1, e2⟩ := h3; subst e1; subst e2; exact ⟨rfl, hk _ h2⟩
    case skip => obtain ⟨e1, e2⟩ := h3; subst e1; subst e2; exact ⟨rfl, hk _ h2⟩
    case enter f args => obtain ⟨e1, hc⟩ := h3; subst e1; exact ⟨rfl, v, hc, hk _ h2⟩
  | halt x w' => simp only [Oper.quietUpon] at h3
theorem wpStill_of_wpQuiet {Q : Act → Prop} : ∀ (l : List Oper) (a : Act), wpQuiet P ops (fun w' => w' = w) Q l a → wpStill P ops w Q l a
  | [], _, h => h
  | o :: l, a, h => by
    unfold wpQuiet at h
    unfold wpStill
    split
    · rename_i hw; rw [if_pos hw] at h; exact still_of_quiet (fun a' h' => wpStill_of_wpQuiet l a' h') h
    · rename_i hw; rw [if_neg hw] at h; exact wpStill_of_wpQuiet l _ h
theorem wp_region_tail {id : Nat} {Q : Exit → Act → World → Prop} {a : Act} {l : List Oper} (n : Nat) (hm : P.follows .mixedOrders = true) (hB : Region.lexTailB .any l.toArray n = true)
    (h : wpQuiet P l.toArray (fun w' => w' = w.drew) (fun a' => wpList P l.toArray Q (l.drop n) a' w.drew) (l.take n) a) : (Code.region id l.toArray true).wp P Q a w :=
  wp_region_still_tail n hm hB (wpStill_of_wpQuiet _ _ h)
end

theorem RowKit.Below.set_ {B : Nat} {a w : World} (h : Below B a w) {c i : Nat} (hc : B ≤ c) (u : Value) : Below B a (w.setCell ⟨c, i, none⟩ u) := h.setCell (p := ⟨c, i, none⟩) hc u

/-! ### An array said by a function of the index -/
def arr (n : Nat) (f : Nat → Value) : Array Value := Array.ofFn (n := n) fun i => f i.val
theorem arr_get (n : Nat) (f : Nat → Value) (i : Nat) : (arr n f)[i]? = if i < n then some (f i) else none := by
  unfold arr; rw [Array.getElem?_ofFn]; split <;> simp_all
theorem arr_at {n : Nat} (f : Nat → Value) {i : Nat} (h : i < n) : (arr n f)[i]? = some (f i) := by rw [arr_get, if_pos h]
theorem arr_list (n : Nat) (g : Nat → Value) : ((List.range n).map g).toArray = arr n g := by
  apply Array.ext_getElem?; intro i
  rw [arr_get]
  by_cases h : i < n
  · simp [h]
  · simp [h]
theorem arr_size (n : Nat) (f : Nat → Value) : (arr n f).size = n := by simp [arr]
theorem arr_congr {n : Nat} {f g : Nat → Value} (h : ∀ i, i < n → f i = g i) : arr n f = arr n g := by
  apply Array.ext_getElem?; intro i; rw [arr_get, arr_get]; split <;> simp_all
theorem arr_set (n : Nat) (f : Nat → Value) (i : Nat) (v : Value) : (arr n f).setIfInBounds i v = arr n (fun j => if j = i then v else f j) := by
  apply Array.ext_getElem?; intro j
  rw [Array.getElem?_setIfInBounds, arr_get, arr_get, arr_size]
  by_cases hj : j = i
  · subst hj; by_cases hn : j < n <;> simp [hn]
  · rw [if_neg (fun e => hj e.symm), if_neg hj]

theorem ret_int {k : IntKind} {a b : Int} (h : a = b) : Ending.returned (.int k a) = .returned (.int k b) := by rw [h]
end Go
