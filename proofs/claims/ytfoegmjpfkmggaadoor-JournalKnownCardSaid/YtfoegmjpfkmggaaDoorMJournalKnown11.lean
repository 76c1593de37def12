/- A range over a function that yields a fixed row of items; the state ahead of each round is known to the function, too. Plain facts over any program. No condition. -/
import Derived.Test.YtfoegmjpfkmggaaDoorMJournalKnown10
import Derived.RangeFuncWrites
import Derived.RangeFuncBound
import Derived.RangeFuncCalls
import Derived.RangeFuncLeaves
import Derived.WalkKit
import Derived.OwnWalkIn
import Derived.TacticsInMore
import Derived.LoopNIn
import Derived.LoopIn
namespace Go
open Go.RowKit
section
variable {F : Fence} {n : Nat} {P : Program}
/-- The function's part: whoever calls keeps I, from round to round; then all N items are yielded, or the caller stops. -/
def RowOf (F : Fence) (n : Nat) (P : Program) (gf : Nat) (lb : Array Value) (encs : Nat → Array Value) (I : Nat → World → Prop) (N : Nat) : Prop :=
  ∀ (l : Nat) (J : Nat → World → Prop) (Jx : World → Prop) (W : World), (∀ k W, J k W → I k W) → (∀ k W W', J k W → Below W.heap.size W W' → J k W') → (∀ W W', Jx W → Below W.heap.size W W' → Jx W') →
    (∀ k W, J k W → k < N → YieldAt F (n - 1) P l (encs k) W fun e W' => (e = .returned (.bool true) ∧ J (k + 1) W') ∨ (e = .returned (.bool false) ∧ Jx W')) →
    J 0 W → CallsIn F n P gf (#[.func (.yield l) #[] #[]] ++ lb) W fun e W' => (∃ v, e = .returned v) ∧ (J N W' ∨ Jx W')
/-- How a round's body may end. -/
def rowPost (B : Nat) (I : World → Prop) (Ix : Code → World → Prop) (W : World) : Exit → Act → World → Prop
  | .normal, _, W' => KeepsFrom B W W' ∧ I W'
  | .ret, _, W' => KeepsFrom B W W' ∧ Ix .ret W'
  | .exit i, _, W' => KeepsFrom B W W' ∧ Ix (.exit i) W'
  | .goto t, _, W' => KeepsFrom B W W' ∧ Ix (.goto t) W'
  | .panic _, _, _ => False
  | .outgrown, _, _ => False
theorem KeepsFrom.near {B : Nat} {X : List Nat} {W W' : World} (h : Near X W W') (hX : ∀ x ∈ X, x < B) : KeepsFrom B W W' :=
  ⟨h.size, fun k _ hB hk _ => (h.block k (Array.getElem?_eq_some_iff.1 hk).1 (fun e => by have := hX k e; omega)).trans hk⟩
theorem KeepsFrom.below {B : Nat} {W W' : World} (h : Below W.heap.size W W') : KeepsFrom B W W' :=
  ⟨h.size, fun k _ _ hk _ => (h.block k (Array.getElem?_eq_some_iff.1 hk).1).trans hk⟩
/-- What lay below B, and all cells, lie as they lay. -/
structure Kept (B : Nat) (W W' : World) : Prop where
  os : W'.os = W.os
  tape : W'.tape = W.tape
  output : W'.output = W.output
  size : W.heap.size ≤ W'.heap.size
  low : ∀ j, j < B → j < W.heap.size → W'.heap[j]? = W.heap[j]?
  cells : ∀ (j : Nat) (o : Obj), W.heap[j]? = some o → o.isCells = true → W'.heap[j]? = some o
theorem Kept.below {B : Nat} {W W' : World} (h : Below W.heap.size W W') : Kept B W W' :=
  ⟨h.os, h.tape, h.output, h.size, fun j _ hj => h.block j hj, fun j _ hj _ => (h.block j (Array.getElem?_eq_some_iff.1 hj).1).trans hj⟩
theorem Kept.put {B : Nat} {W : World} {l : Nat} {o o' : Obj} (hB : B ≤ l) (hl : W.heap[l]? = some o') (ho : o'.isCells = false) : Kept B W (W.putObj l o) :=
  ⟨rfl, rfl, rfl, by simp [World.putObj], fun j hj _ => World.putObj_heap_other (by omega), fun j o2 hj h2 => by
    by_cases e : j = l
    · subst e; rw [hl] at hj; injection hj with hj; subst hj; rw [ho] at h2; cases h2
    · exact (World.putObj_heap_other e).trans hj⟩
theorem Blk.keptW {B : Nat} {W W' : World} {g : Nat} {t : TypeId} {cs : Array Value} (h : Blk W g t cs) (k : Kept B W W') : Blk W' g t cs := k.cells g _ h rfl
theorem MapB.keptW {B : Nat} {W W' : World} {g : Nat} {es : Array MapEntry} {c : Nat} (h : MapB W g es c) (k : Kept B W W') (hg : g < B) : MapB W' g es c := (k.low g hg h.lt).trans h
theorem Kept.cell {B : Nat} {W W' : World} (k : Kept B W W') {p : Addr} {v : Value} (h : W.cell? p = some v) : W'.cell? p = some v := by
  unfold World.cell? at h ⊢
  split at h
  · rename_i cs t e
    rw [k.cells _ _ e rfl]; exact h
  · cases h
theorem Near.keptW {B : Nat} {X : List Nat} {w W W' : World} (h : Near X w W) (k : Kept B W W') (hB : w.heap.size ≤ B) : Near X w W' :=
  ⟨k.os.trans h.os, k.tape.trans h.tape, k.output.trans h.output, Nat.le_trans h.size k.size, fun j hj hn => (k.low j (by omega) (Nat.lt_of_lt_of_le hj h.size)).trans (h.block j hj hn)⟩
theorem Near.high {X Y : List Nat} {w W W' : World} (h : Near X w W) (k : Near Y W W') (hY : ∀ y ∈ Y, w.heap.size ≤ y) : Near X w W' :=
  ⟨k.os.trans h.os, k.tape.trans h.tape, k.output.trans h.output, Nat.le_trans h.size k.size, fun j hj hn => (k.block j (Nat.lt_of_lt_of_le hj h.size) (fun hx => by have := hY j hx; omega)).trans (h.block j hj hn)⟩
theorem Reads.keptW {B : Nat} {W W' : World} {A : Option Addr} {xs : List Value} (h : Reads W A xs) (k : Kept B W W') : Reads W' A xs := fun hn => by
  obtain ⟨b, off, e, hc⟩ := h hn
  exact ⟨b, off, e, fun j v hv => k.cell (hc j v hv)⟩
theorem wpIn_rangeRow {g : Operand} {ps : Array Tmp} {assign body : Code} {Q : Exit → Act → World → Prop} {a : Act} {w : World}
    (hro : F.round = none) (h1 : 1 ≤ n) {gf : Nat} {lb : Array Value} (hg : a.eval g = .func (.func gf) #[] lb) (hFg : F.fn gf) (eg : ∀ args w, (callFunc gf args).run P w = .ok (.enter gf args) w)
    (encs : Nat → Array Value) (hps : ∀ k, (encs k).size = ps.size) (N : Nat) (I : Nat → World → Prop) (Ix : Code → World → Prop)
    (hI : ∀ k W W', I k W → Kept w.heap.size W W' → I k W') (hIx : ∀ c W W', Ix c W → Kept w.heap.size W W' → Ix c W') (h0 : I 0 w)
    (hrow : RowOf F (n - 1) P gf lb encs I N)
    (hround : ∀ l k W, w.heap.size ≤ l → l < W.heap.size → I k W → k < N → assign.wpIn (F.inRound l) (n - 1 - 1) P
      (Exit.then (fun a₁ W₁ => Below W.heap.size W W₁ ∧ ∀ W₂, Kept w.heap.size W₁ W₂ → body.wpIn (F.inRound l) (n - 1 - 1) P (rowPost w.heap.size (I (k + 1)) Ix W₂) a₁ W₂) (fun _ _ _ => False))
      { tmps := (ps.zip (encs k)).foldl (fun t (p, v) => t.setIfInBounds p v) a.tmps, defers := [] } W)
    (hdone : ∀ D W, w.heap.size ≤ D → I N W → W.heap[D]? = some (.deferred (some [])) → Q .normal { a with defers := { target := .collected D, args := #[] } :: a.defers } W)
    (hstop : ∀ D c W, w.heap.size ≤ D → Ix c W → W.heap[D]? = some (.deferred (some [])) → c.wpIn F n P Q { a with defers := { target := .collected D, args := #[] } :: a.defers } W) :
    (Code.rangeFunc g ps assign body).wpIn F n P Q a w := by
  refine wpIn_rangeFunc fun fn hfn => ?_
  rw [hro]
  -- the loop's record, in a state; the two blocks that the loop lays
  let R : LoopState → Option Code → Obj := fun st pe => .loop { state := st, pending := pe, fn, tmps := a.tmps, params := ps, assign, body, defers := w.heap.size }
  let D := w.heap.size
  let l := w.heap.size + 1
  -- what the loop needs of a world, beside the caller's own
  let Bk : LoopState → Option Code → World → Prop := fun st pe W => W.heap[l]? = some (R st pe) ∧ W.heap[D]? = some (.deferred (some []))
  have bklt : ∀ {st pe W}, Bk st pe W → l < W.heap.size := fun h => (Array.getElem?_eq_some_iff.1 h.1).1
  have bkput : ∀ {st pe W} st' pe', Bk st pe W → Bk st' pe' (W.putObj l (R st' pe')) := fun st' pe' h =>
    ⟨World.putObj_heap_same (bklt h), (World.putObj_heap_other (by show D ≠ l; omega)).trans h.2⟩
  have bkput' : ∀ {st pe W} (o : Obj), Bk st pe W → (W.putObj l o).heap[D]? = some (.deferred (some [])) := fun o h => (World.putObj_heap_other (by show D ≠ l; omega)).trans h.2
  have bkbel : ∀ {st pe W W'}, Bk st pe W → Below W.heap.size W W' → Bk st pe W' := fun h k =>
    ⟨(k.block _ (bklt h)).trans h.1, (k.block _ (by have := bklt h; omega)).trans h.2⟩
  have low : ∀ {st pe W}, Bk st pe W → w.heap.size ≤ W.heap.size := fun h => by have := bklt h; omega
  have put : ∀ {st pe W} (o : Obj), Bk st pe W → Kept w.heap.size W (W.putObj l o) := fun o h => Kept.put (by show D ≤ l; omega) h.1 rfl
  -- the world behind the loop's entry
  let W1 := (w.alloc (.deferred (some []))).alloc (R .ready none)
  have e1 : Below w.heap.size w W1 := ((Below.refl _ w).alloc (Nat.le_refl _) _).alloc (by simp) _
  have b1 : Bk .ready none W1 := by
    refine ⟨?_, ?_⟩
    · have h := World.alloc_heap_new (w.alloc (.deferred (some []))) (R .ready none)
      rwa [World.size_alloc] at h
    · exact (Below.heap_alloc _ _ _ (by rw [World.size_alloc]; exact Nat.lt_succ_self _)).trans (World.alloc_heap_new w _)
  refine ⟨l, [{ target := .collected D, args := #[] }], W1, { target := .fn (.func gf) lb, args := #[.func (.yield l) #[] #[]] }, W1, gf, #[.func (.yield l) #[] #[]] ++ lb, W1,
    run_enterLoop_outer _ _ _ _ _, ?_, ?_, ?_, fun _ => h1, ?_⟩
  · simp only [resolve, hg]
    simp [go_sem]
  · intro f' hf'
    simp [Target.leads] at hf'
    exact hf' ▸ hFg
  · simp [invoke, go_sem, eg]
  refine (hrow l (fun k W => I k W ∧ Bk .ready none W) (fun W => ∃ c, Ix c W ∧ Bk .done (some c) W) W1 (fun _ _ h => h.1)
    (fun k W W' h b => ⟨hI k W W' h.1 (Kept.below b), bkbel h.2 b⟩) (fun W W' h b => by obtain ⟨c, hc, hb⟩ := h; exact ⟨c, hIx c W W' hc (Kept.below b), bkbel hb b⟩) ?_ ⟨hI 0 w W1 h0 (Kept.below e1), b1⟩).mono ?_
  · -- a round
    rintro k W ⟨hi, hb⟩ hk
    refine ⟨fn, _, assign, body, run_yield hb.1 (hps k), roundIn_of_wpIn hfn ?_⟩
    refine wpIn_mono (hround l k W (by show D ≤ l; omega) (bklt hb) hi hk) ?_
    rintro e a1 W2 he
    cases e
    case normal =>
      obtain ⟨hB, hbody⟩ := he
      have hb2 := bkbel hb hB
      refine ⟨_, run_beginRound hb2.1 rfl, ?_⟩
      have hb3 := bkput .busy none hb2
      refine wpIn_mono (hbody _ (Kept.put (by show D ≤ l; omega) hb2.1 rfl)) ?_
      rintro e3 a3 W4 hp
      have fin : KeepsFrom w.heap.size (W2.putObj l (R .busy none)) W4 → Bk .busy none W4 := fun hkf => ⟨hkf.same _ _ (by show D ≤ l; omega) hb3.1 rfl, hkf.same _ _ (Nat.le_refl _) hb3.2 rfl⟩
      cases e3 with
      | normal =>
        have hb4 := fin hp.1
        exact ⟨_, _, run_endRound none hb4.1, .inl ⟨rfl, hI _ _ _ hp.2 (put _ hb4), bkput .ready none hb4⟩⟩
      | ret =>
        have hb4 := fin hp.1
        exact ⟨_, _, run_endRound (some .ret) hb4.1, .inr ⟨rfl, .ret, hIx _ _ _ hp.2 (put _ hb4), bkput .done (some .ret) hb4⟩⟩
      | exit i =>
        have hb4 := fin hp.1
        exact ⟨_, _, run_endRound (some (.exit i)) hb4.1, .inr ⟨rfl, .exit i, hIx _ _ _ hp.2 (put _ hb4), bkput .done (some (.exit i)) hb4⟩⟩
      | goto t =>
        have hb4 := fin hp.1
        exact ⟨_, _, run_endRound (some (.goto t)) hb4.1, .inr ⟨rfl, .goto t, hIx _ _ _ hp.2 (put _ hb4), bkput .done (some (.goto t)) hb4⟩⟩
      | panic ch => exact hp.elim
      | outgrown => exact hp.elim
    all_goals exact he.elim
  · -- behind the function
    rintro e W2 ⟨⟨v, rfl⟩, (⟨hi, hb⟩ | ⟨c, hc, hb⟩)⟩
    · exact ⟨none, _, run_endLoop hb.1 (by simp), hdone D _ (Nat.le_refl _) (hI _ _ _ hi (put _ hb)) (bkput' _ hb)⟩
    · exact ⟨some c, _, run_endLoop hb.1 (by simp), hstop D c _ (Nat.le_refl _) (hIx _ _ _ hc (put _ hb)) (bkput' _ hb)⟩
end
end Go

/- What a call hands back whose first two results lie in blocks; the marks of loops over functions. Plain facts over any program. No condition. -/
namespace Go
open Go.RowKit
/-- What a call hands back that lies in a block. -/
theorem results_row1 {P : Program} {fn : Func} {p : Tmp} {ty : TypeId} (h : fn.results = #[.cell p ty]) (tmps : Array Value) (w : World) (g : Nat) (t : TypeId) (cs : Array Value) (d : TypeDesc)
    (hp : tmps.getD p undef = .pointer (some ⟨g, 0, none⟩)) (hg : Blk w g t cs)
    (hu : P.underlying ty = some d) (hd : (match d with | .struct _ | .array _ _ => true | _ => false) = true) (hi : (P.info? ty).map (·.size) = some cs.size) :
    (results fn tmps).run P w = .ok (.agg cs) w := by
  have hp' : tmps[p]?.getD undef = .pointer (some ⟨g, 0, none⟩) := by simpa using hp
  simp [results, h, hp', asAddr, run_loadVar_row w g t ty cs (0, 0) d hg hu hd hi]
/-- A loop's mark is shut: what a contract speaks of lies as it lay. -/
theorem mark_kept {B : Nat} {W : World} {D : Nat} (hB : B ≤ D) (h : W.heap[D]? = some (.deferred (some []))) : Kept B W (W.putObj D (.deferred none)) := Kept.put hB h rfl
end Go

/- A journal's place; is a disk ready for rings; the calls of a journal that is nil, or that nobody made. Conditions: the disk is known, or is none. -/
namespace Go.Proofs.YtfoegmjpfkmggaaDoor
open Go.RowKit
theorem jplace_any (n : Int) (hn : 0 ≤ n ∧ n ≤ 100) (w : World) : Calls Tryd.prog 26 #[.int .i64 n] w fun e w' => e = .returned (.int .i64 (24 + 5 * n)) ∧ w' = w := by
  have h1 : wrap64 (n * 5) = n * 5 := by unfold wrap64; omega
  have h4 : wrap64 (24 + n * 5) = 24 + 5 * n := by unfold wrap64; omega
  clear hn
  go_enter Tryd.func26, Tryd.ntmps26
  go_wp2
  go_ret
  exact ⟨by simp [h1, h4], rfl⟩
/-- Cells of a journal that nobody made. -/
def noJour : Array Value := #[.pointer none] ++ (List.replicate 16 [Value.int .i64 0, .int .i64 0, .int .i64 0, .bool false]).flatten.toArray
def NoJour (J : Option Addr) (w : World) : Prop := J = none ∨ ∃ g, J = some ⟨g, 0, none⟩ ∧ Blk w g 52 noJour
theorem NoJour.near {J : Option Addr} {w w' : World} (h : NoJour J w) (k : Near [] w w') : NoJour J w' := by
  rcases h with rfl | ⟨g, rfl, h⟩
  · exact .inl rfl
  · exact .inr ⟨g, rfl, h.near k (fun x => by cases x)⟩
theorem NoJour.below {J : Option Addr} {w w' : World} (h : NoJour J w) (k : Below w.heap.size w w') : NoJour J w' := h.near (Near.below k)
section
variable (J : Option Addr) (w : World) (h : NoJour J w)
include h
end
section
variable (D : Option Addr) (w : World) (h : NoDisk D w)
include h
end
end Go.Proofs.YtfoegmjpfkmggaaDoor

/- What the kit asks of lists that shall share no memory: each is written over, and the others stay. Conditions: they lie whole in blocks of their own, or are nil. -/
namespace Go
open Go.RowKit
/-- A list that lies whole in a block, or none: its address, its length, all its bytes up to its capacity. -/
structure Ent where
  A : Option Addr
  n : Nat
  l : List UInt8
def Ent.val (e : Ent) : Value := .slice e.A e.n e.l.length
def Ent.blk (e : Ent) : Option Nat := e.A.map (·.block)
def Ent.Is (w : World) (e : Ent) : Prop :=
  e.n ≤ e.l.length ∧ e.l.length ≤ 140737488351232 ∧ ((e.A = none ∧ e.l = []) ∨ ∃ g t, e.A = some ⟨g, 0, none⟩ ∧ Blk w g t (e.l.map u8v).toArray)
theorem Ent.Is.bytes {w : World} {e : Ent} (h : e.Is w) : Bytes w e.A e.l := by
  obtain ⟨_, _, ⟨h1, h2⟩ | ⟨g, t, h1, h2⟩⟩ := h
  · rw [h1, h2]; exact Reads.nil _ _
  · rw [h1]; exact h2.bytes
theorem Ent.Is.kept {w w' : World} {row : Option Nat} {e : Ent} (h : e.Is w) (hg : w.grownBy w' row) (hne : ∀ g, e.blk = some g → some g ≠ row) : e.Is w' := by
  obtain ⟨h1, h2, h3 | ⟨g, t, h3, h4⟩⟩ := h
  · exact ⟨h1, h2, .inl h3⟩
  · exact ⟨h1, h2, .inr ⟨g, t, h3, (hg.block g h4.lt (hne g (by unfold Ent.blk; rw [h3]; rfl))).trans h4⟩⟩
theorem Ent.Is.below {w w' : World} {e : Ent} {B : Nat} (h : e.Is w) (hb : Below B w w') (hlt : ∀ g, e.blk = some g → g < B) : e.Is w' := by
  obtain ⟨h1, h2, h3 | ⟨g, t, h3, h4⟩⟩ := h
  · exact ⟨h1, h2, .inl h3⟩
  · exact ⟨h1, h2, .inr ⟨g, t, h3, h4.below hb (hlt g (by unfold Ent.blk; rw [h3]; rfl))⟩⟩
theorem Ent.Is.lt {w : World} {e : Ent} (h : e.Is w) : ∀ g, e.blk = some g → g < w.heap.size := by
  intro g hg
  obtain ⟨_, _, ⟨h3, _⟩ | ⟨g', t, h3, h4⟩⟩ := h
  · unfold Ent.blk at hg; rw [h3] at hg; cases hg
  · unfold Ent.blk at hg; rw [h3] at hg; simp at hg; subst hg; exact h4.lt
theorem Upd.grownBy {w w' : World} {g : Nat} (u : Upd g w w') : w.grownBy w' (some g) := ⟨u.os, u.tape, u.output, by rw [u.size]; exact Nat.le_refl _, fun k _ hk => u.block k (fun e => hk (by rw [e]))⟩
end Go
namespace Go.Proofs.YtfoegmjpfkmggaaDoor
open Go.RowKit
end Go.Proofs.YtfoegmjpfkmggaaDoor

/- The plain seal, reckoned with natural numbers, so that the kernel can reckon it of long bytes. Plain facts. No condition. -/
namespace Go
namespace ShaN
/-- A number reckoned ahead of what uses it. -/
def force {α : Type} (n : Nat) (f : Nat → α) : α := match n with
  | 0 => f 0
  | k + 1 => f (k + 1)
theorem force_eq {α : Type} (n : Nat) (f : Nat → α) : force n f = f n := by cases n <;> rfl
def rot (x n : Nat) : Nat := Nat.lor (Nat.shiftRight x n) (Nat.mod (Nat.shiftLeft x (32 - n)) 4294967296)
def sg0 (x : Nat) : Nat := Nat.xor (Nat.xor (rot x 7) (rot x 18)) (Nat.shiftRight x 3)
def sg1 (x : Nat) : Nat := Nat.xor (Nat.xor (rot x 17) (rot x 19)) (Nat.shiftRight x 10)
def tt1 (k w e f g h : Nat) : Nat := Nat.mod (h + Nat.xor (Nat.xor (rot e 6) (rot e 11)) (rot e 25) + Nat.xor (Nat.land e f) (Nat.land (4294967295 - e) g) + k + w) 4294967296
def tt2 (a b c : Nat) : Nat := Nat.xor (Nat.xor (rot a 2) (rot a 13)) (rot a 22) + Nat.xor (Nat.xor (Nat.land a b) (Nat.land a c)) (Nat.land b c)
def nextN (w0 w1 w9 w14 : Nat) : Nat := Nat.mod (sg1 w14 + w9 + sg0 w1 + w0) 4294967296
/-- Some rounds; 16 words ahead are known. -/
def go : List Nat → List Nat → Nat → Nat → Nat → Nat → Nat → Nat → Nat → Nat → List Nat
  | [], _, a, b, c, d, e, f, g, h => [a, b, c, d, e, f, g, h]
  | k :: ks, ws, a, b, c, d, e, f, g, h =>
    force (ws.getD 0 0) fun w0 =>
    force (tt1 k w0 e f g h) fun t1 =>
    force (Nat.mod (t1 + tt2 a b c) 4294967296) fun a' =>
    force (Nat.mod (d + t1) 4294967296) fun e' =>
    force (nextN w0 (ws.getD 1 0) (ws.getD 9 0) (ws.getD 14 0)) fun wn =>
    go ks (ws.drop 1 ++ [wn]) a' a b c e' e f g
def toL (s : Sha.St) : List Nat := [s.a.toNat, s.b.toNat, s.c.toNat, s.d.toNat, s.e.toNat, s.f.toNat, s.g.toNat, s.h.toNat]
theorem rot_eq (x : UInt32) (n : Nat) (h0 : 0 < n) (h : n < 32) : rot x.toNat n = (Sha.rotr x n).toNat := by
  unfold rot Sha.rotr
  rw [UInt32.toNat_or, u32_shr_nat x n h, u32_shl_nat x (32 - n) (by omega)]
  show Nat.lor (x.toNat >>> n) ((x.toNat <<< (32 - n)) % 4294967296) = _
  rw [Nat.shiftRight_eq_div_pow, Nat.shiftLeft_eq]; rfl
theorem sg0_eq (x : UInt32) : sg0 x.toNat = (Sha.s0 x).toNat := by
  unfold sg0 Sha.s0
  rw [UInt32.toNat_xor, UInt32.toNat_xor, rot_eq x 7 (by omega) (by omega), rot_eq x 18 (by omega) (by omega)]
  have := u32_shr_nat x 3 (by omega)
  rw [show (x >>> (3 : UInt32)) = x >>> UInt32.ofNat 3 from rfl, this]
  show Nat.xor _ (x.toNat >>> 3) = _
  rw [Nat.shiftRight_eq_div_pow]; rfl
theorem sg1_eq (x : UInt32) : sg1 x.toNat = (Sha.s1 x).toNat := by
  unfold sg1 Sha.s1
  rw [UInt32.toNat_xor, UInt32.toNat_xor, rot_eq x 17 (by omega) (by omega), rot_eq x 19 (by omega) (by omega)]
  have := u32_shr_nat x 10 (by omega)
  rw [show (x >>> (10 : UInt32)) = x >>> UInt32.ofNat 10 from rfl, this]
  show Nat.xor _ (x.toNat >>> 10) = _
  rw [Nat.shiftRight_eq_div_pow]; rfl
theorem not_eq (x : UInt32) : 4294967295 - x.toNat = (~~~x).toNat := by
  rw [UInt32.toNat_not]; simp [UInt32.size]
theorem tt1_eq (k w : UInt32) (s : Sha.St) : tt1 k.toNat w.toNat s.e.toNat s.f.toNat s.g.toNat s.h.toNat = (Sha.t1 k w s).toNat := by
  unfold tt1 Sha.t1
  rw [not_eq, rot_eq s.e 6 (by omega) (by omega), rot_eq s.e 11 (by omega) (by omega), rot_eq s.e 25 (by omega) (by omega)]
  simp only [UInt32.toNat_add, UInt32.toNat_xor, UInt32.toNat_and]
  show (_ + (_ ^^^ _ ^^^ _) + ((_ &&& _) ^^^ (_ &&& _)) + _ + _) % 4294967296 = _
  omega
theorem tt2_eq (s : Sha.St) : tt2 s.a.toNat s.b.toNat s.c.toNat % 4294967296 = (Sha.t2 s).toNat := by
  unfold tt2 Sha.t2
  rw [rot_eq s.a 2 (by omega) (by omega), rot_eq s.a 13 (by omega) (by omega), rot_eq s.a 22 (by omega) (by omega)]
  simp only [UInt32.toNat_add, UInt32.toNat_xor, UInt32.toNat_and]
  rfl
theorem next_eq (w0 w1 w9 w14 : UInt32) : nextN w0.toNat w1.toNat w9.toNat w14.toNat = (Sha.s1 w14 + w9 + Sha.s0 w1 + w0).toNat := by
  unfold nextN
  rw [sg1_eq, sg0_eq]
  simp only [UInt32.toNat_add]
  show (_ + _ + _ + _) % 4294967296 = _
  omega
/-- Rounds from t on. -/
theorem go_eq (m : Nat → UInt32) (s : Sha.St) : ∀ (n t : Nat), t + n = 64 →
    go ((Sha.kl.drop t).map (·.toNat)) ((List.range 16).map fun i => (Sha.wd m (t + i)).toNat) (Sha.rounds m s t).a.toNat (Sha.rounds m s t).b.toNat (Sha.rounds m s t).c.toNat (Sha.rounds m s t).d.toNat (Sha.rounds m s t).e.toNat (Sha.rounds m s t).f.toNat (Sha.rounds m s t).g.toNat (Sha.rounds m s t).h.toNat
      = toL (Sha.rounds m s 64)
  | 0, t, h => by
    obtain rfl : t = 64 := by omega
    have : Sha.kl.drop 64 = [] := rfl
    rw [this]; rfl
  | n + 1, t, h => by
    have hk : Sha.kl.drop t = Sha.kt t :: Sha.kl.drop (t + 1) := by
      have hl : t < Sha.kl.length := by show t < 64; omega
      rw [List.drop_eq_getElem_cons hl]
      congr 1
      unfold Sha.kt
      simp [List.getD, hl]
    rw [hk, List.map_cons]
    unfold go
    simp only [force_eq]
    have e0 : ((List.range 16).map fun i => (Sha.wd m (t + i)).toNat).getD 0 0 = (Sha.wd m t).toNat := rfl
    have e1 : ((List.range 16).map fun i => (Sha.wd m (t + i)).toNat).getD 1 0 = (Sha.wd m (t + 1)).toNat := rfl
    have e9 : ((List.range 16).map fun i => (Sha.wd m (t + i)).toNat).getD 9 0 = (Sha.wd m (t + 9)).toNat := rfl
    have e14 : ((List.range 16).map fun i => (Sha.wd m (t + i)).toNat).getD 14 0 = (Sha.wd m (t + 14)).toNat := rfl
    rw [e0, e1, e9, e14, tt1_eq, next_eq]
    have hw : (Sha.s1 (Sha.wd m (t + 14)) + Sha.wd m (t + 9) + Sha.s0 (Sha.wd m (t + 1)) + Sha.wd m t) = Sha.wd m (t + 16) := by
      rw [Sha.wd_hi m (show 16 ≤ t + 16 by omega)]
      rw [show t + 16 - 2 = t + 14 by omega, show t + 16 - 7 = t + 9 by omega, show t + 16 - 15 = t + 1 by omega, show t + 16 - 16 = t by omega]
    rw [hw]
    have hwin : ((List.range 16).map fun i => (Sha.wd m (t + i)).toNat).drop 1 ++ [(Sha.wd m (t + 16)).toNat] = (List.range 16).map fun i => (Sha.wd m (t + 1 + i)).toNat := by
      have : ∀ i, Sha.wd m (t + 1 + i) = Sha.wd m (t + (1 + i)) := fun i => by rw [Nat.add_assoc]
      simp only [this]
      rfl
    rw [hwin]
    have hr : Sha.rounds m s (t + 1) = Sha.round (Sha.kt t) (Sha.wd m t) (Sha.rounds m s t) := rfl
    have ha : ((Sha.t1 (Sha.kt t) (Sha.wd m t) (Sha.rounds m s t)).toNat + tt2 (Sha.rounds m s t).a.toNat (Sha.rounds m s t).b.toNat (Sha.rounds m s t).c.toNat).mod 4294967296 = (Sha.rounds m s (t + 1)).a.toNat := by
      rw [hr]
      show (_ + _) % 4294967296 = (Sha.t1 _ _ _ + Sha.t2 _).toNat
      rw [UInt32.toNat_add, ← tt2_eq]
      omega
    have he : ((Sha.rounds m s t).d.toNat + (Sha.t1 (Sha.kt t) (Sha.wd m t) (Sha.rounds m s t)).toNat).mod 4294967296 = (Sha.rounds m s (t + 1)).e.toNat := by
      rw [hr]
      show (_ + _) % 4294967296 = ((Sha.rounds m s t).d + Sha.t1 _ _ _).toNat
      rw [UInt32.toNat_add]
    rw [ha, he]
    have := go_eq m s n (t + 1) (by omega)
    rw [← this]
    rfl
def beN (a b c d : Nat) : Nat := Nat.lor (Nat.lor (Nat.lor (Nat.mod (Nat.shiftLeft a 24) 4294967296) (Nat.mod (Nat.shiftLeft b 16) 4294967296)) (Nat.mod (Nat.shiftLeft c 8) 4294967296)) d
theorem beN_eq (a b c d : UInt8) : beN a.toNat b.toNat c.toNat d.toNat = (Sha.be a b c d).toNat := by
  unfold beN Sha.be
  have e : ∀ (x : UInt8) (n : Nat), n < 32 → (Nat.shiftLeft x.toNat n).mod 4294967296 = (x.toUInt32 <<< UInt32.ofNat n).toNat := fun x n h => by
    rw [u32_shl_nat _ n h, UInt8.toNat_toUInt32]
    show (x.toNat <<< n) % _ = _
    rw [Nat.shiftLeft_eq]
  rw [UInt32.toNat_or, UInt32.toNat_or, UInt32.toNat_or, UInt8.toNat_toUInt32, e a 24 (by omega), e b 16 (by omega), e c 8 (by omega)]
  rfl
def w4 : List Nat → List Nat
  | a :: b :: c :: d :: r => force (beN a b c d) fun w => w :: w4 r
  | _ => []
theorem w4_eq (l : List UInt8) : ∀ (n at_ : Nat), at_ + 4 * n ≤ l.length → w4 (((l.drop at_).take (4 * n)).map (·.toNat)) = (List.range n).map fun t => (Sha.word l at_ t).toNat
  | 0, at_, _ => by simp [w4]
  | n + 1, at_, h => by
    have e4 : (l.drop at_).take (4 * (n + 1)) = l.getD at_ 0 :: l.getD (at_ + 1) 0 :: l.getD (at_ + 2) 0 :: l.getD (at_ + 3) 0 :: (l.drop (at_ + 4)).take (4 * n) := by
      have hg : ∀ i, i < l.length → l.drop i = l.getD i 0 :: l.drop (i + 1) := fun i hi => by
        rw [List.drop_eq_getElem_cons hi]; congr 1; simp [List.getD, hi]
      rw [hg at_ (by omega), hg (at_ + 1) (by omega), hg (at_ + 1 + 1) (by omega), hg (at_ + 1 + 1 + 1) (by omega)]
      rw [show 4 * (n + 1) = 4 * n + 1 + 1 + 1 + 1 by omega]
      simp only [List.take_succ_cons]
    rw [e4]
    simp only [List.map_cons, w4, force_eq]
    rw [w4_eq l n (at_ + 4) (by omega), beN_eq, List.range_succ_eq_map, List.map_cons, List.map_map]
    have hw0 : Sha.word l at_ 0 = Sha.be (l.getD at_ 0) (l.getD (at_ + 1) 0) (l.getD (at_ + 2) 0) (l.getD (at_ + 3) 0) := rfl
    rw [hw0]
    refine congrArg (List.cons _) ?_
    apply List.map_congr_left
    intro t _
    simp only [Function.comp, Sha.word]
    rw [show at_ + 4 + 4 * t = at_ + 4 * (t + 1) by omega]
def kN : List Nat := [
  0x428a2f98, 0x71374491, 0xb5c0fbcf, 0xe9b5dba5, 0x3956c25b, 0x59f111f1, 0x923f82a4, 0xab1c5ed5,
  0xd807aa98, 0x12835b01, 0x243185be, 0x550c7dc3, 0x72be5d74, 0x80deb1fe, 0x9bdc06a7, 0xc19bf174,
  0xe49b69c1, 0xefbe4786, 0x0fc19dc6, 0x240ca1cc, 0x2de92c6f, 0x4a7484aa, 0x5cb0a9dc, 0x76f988da,
  0x983e5152, 0xa831c66d, 0xb00327c8, 0xbf597fc7, 0xc6e00bf3, 0xd5a79147, 0x06ca6351, 0x14292967,
  0x27b70a85, 0x2e1b2138, 0x4d2c6dfc, 0x53380d13, 0x650a7354, 0x766a0abb, 0x81c2c92e, 0x92722c85,
  0xa2bfe8a1, 0xa81a664b, 0xc24b8b70, 0xc76c51a3, 0xd192e819, 0xd6990624, 0xf40e3585, 0x106aa070,
  0x19a4c116, 0x1e376c08, 0x2748774c, 0x34b0bcb5, 0x391c0cb3, 0x4ed8aa4a, 0x5b9cca4f, 0x682e6ff3,
  0x748f82ee, 0x78a5636f, 0x84c87814, 0x8cc70208, 0x90befffa, 0xa4506ceb, 0xbef9a3f7, 0xc67178f2]
theorem kN_eq : Sha.kl.map (·.toNat) = kN := by decide +kernel
/-- Numbers reckoned ahead of what uses them. -/
def forceL {α : Type} : List Nat → (List Nat → α) → α
  | [], f => f []
  | n :: l, f => force n fun m => forceL l fun r => f (m :: r)
theorem forceL_eq {α : Type} : ∀ (l : List Nat) (f : List Nat → α), forceL l f = f l
  | [], _ => rfl
  | n :: l, f => by simp only [forceL, force_eq, forceL_eq l]
def addL : List Nat → List Nat → List Nat
  | a :: l, b :: m => Nat.mod (a + b) 4294967296 :: addL l m
  | _, _ => []
def blkN (s : List Nat) (bytes : List Nat) : List Nat := match s with
  | [a, b, c, d, e, f, g, h] => addL s (go kN (w4 bytes) a b c d e f g h)
  | _ => []
theorem blkN_eq (s : Sha.St) (l : List UInt8) (at_ : Nat) (h : at_ + 64 ≤ l.length) : blkN (toL s) (((l.drop at_).take 64).map (·.toNat)) = toL (Sha.blk s l at_) := by
  have hw := w4_eq l 16 at_ h
  unfold blkN toL
  simp only []
  rw [show (64 : Nat) = 4 * 16 from rfl, hw]
  have hwd : ((List.range 16).map fun t => (Sha.word l at_ t).toNat) = (List.range 16).map fun i => (Sha.wd (Sha.word l at_) (0 + i)).toNat := by
    apply List.map_congr_left
    intro t ht
    rw [Nat.zero_add, Sha.wd_lo _ (List.mem_range.1 ht)]
  have := go_eq (Sha.word l at_) s 64 0 rfl
  rw [← hwd, List.drop_zero, kN_eq] at this
  have e0 : Sha.rounds (Sha.word l at_) s 0 = s := rfl
  rw [e0] at this
  rw [this]
  unfold Sha.blk Sha.add toL
  simp only [addL, UInt32.toNat_add]
  rfl
def blksN : Nat → List Nat → List Nat → List Nat
  | 0, _, s => s
  | n + 1, l, s => forceL (blkN s (l.take 64)) fun s' => blksN n (l.drop 64) s'
theorem blksN_eq (l : List UInt8) (s : Sha.St) : ∀ (n k : Nat), 64 * (k + n) ≤ l.length → blksN n ((l.drop (64 * k)).map (·.toNat)) (toL (Sha.blks l s k)) = toL (Sha.blks l s (k + n))
  | 0, k, _ => rfl
  | n + 1, k, h => by
    simp only [blksN, forceL_eq]
    rw [← List.map_take, blkN_eq _ _ _ (by omega), ← List.map_drop, List.drop_drop]
    have : toL (Sha.blk (Sha.blks l s k) l (64 * k)) = toL (Sha.blks l s (k + 1)) := rfl
    rw [this, show 64 * k + 64 = 64 * (k + 1) by omega, blksN_eq l s n (k + 1) (by omega)]
    congr 2; omega
def outN (s : List Nat) : List Nat := (List.range 16).map fun k => Nat.mod (Nat.div (s.getD (k / 4) 0) (2 ^ (24 - 8 * (k % 4)))) 256
def initN : List Nat := [0x6a09e667, 0xbb67ae85, 0x3c6ef372, 0xa54ff53a, 0x510e527f, 0x9b05688c, 0x1f83d9ab, 0x5be0cd19]
/-- The seal of bytes. -/
def sumN (l : List Nat) (tl : List Nat) (n : Nat) : List Nat := outN (blksN n (l ++ tl) initN)
theorem sumN_eq (l : List UInt8) (n : Nat) (hn : n = (l.length + Sha.zeros l.length + 9) / 64) : (Sha.sum l).map (·.toNat) = sumN (l.map (·.toNat)) ((Sha.tail l.length).map (·.toNat)) n := by
  unfold sumN Sha.sum
  have hlen : (Sha.pad l).length / 64 = n := by rw [Sha.pad_length, hn]
  rw [hlen]
  have h1 := blksN_eq (Sha.pad l) Sha.init n 0 (by rw [Sha.pad_length]; have := Sha.pad_mod l; rw [Sha.pad_length] at this; omega)
  rw [Nat.mul_zero, List.drop_zero, Nat.zero_add] at h1
  have h0 : toL (Sha.blks (Sha.pad l) Sha.init 0) = initN := by
    show toL Sha.init = initN
    decide +kernel
  rw [h0] at h1
  have hp : (Sha.pad l).map (·.toNat) = l.map (·.toNat) ++ (Sha.tail l.length).map (·.toNat) := by unfold Sha.pad; rw [List.map_append]
  rw [← hp, h1]
  unfold Sha.out outN
  rw [List.map_map]
  apply List.map_congr_left
  intro k hk
  have hk16 := List.mem_range.1 hk
  simp only [Function.comp, Sha.outAt, Sha.byte]
  have hg : (toL (Sha.blks (Sha.pad l) Sha.init n)).getD (k / 4) 0 = (Sha.get (Sha.blks (Sha.pad l) Sha.init n) (k / 4)).toNat := by
    have : k / 4 = 0 ∨ k / 4 = 1 ∨ k / 4 = 2 ∨ k / 4 = 3 := by omega
    rcases this with h | h | h | h <;> rw [h] <;> rfl
  rw [hg]
  exact UInt8.toNat_ofNat_of_lt' (by have := Nat.mod_lt ((Sha.get (Sha.blks (Sha.pad l) Sha.init n) (k / 4)).toNat / 2 ^ (24 - 8 * (k % 4))) (show 0 < 256 by omega); simpa [UInt8.size] using this)
theorem toNat_inj : ∀ {l m : List UInt8}, l.map (·.toNat) = m.map (·.toNat) → l = m
  | [], [], _ => rfl
  | [], _ :: _, h => by cases h
  | _ :: _, [], h => by cases h
  | a :: l, b :: m, h => by
    simp only [List.map_cons, List.cons.injEq] at h
    rw [UInt8.toNat_inj.1 h.1, toNat_inj h.2]
end ShaN
end Go

/- The chapter's message: its bytes, told by reckoning; what is written is read. No condition. -/
namespace Go.Proofs.YtfoegmjpfkmggaaDoor
theorem Msg.read_bytes (f : HdF) (body : List UInt8) (hok : Hd.ok f = true) (hin : Hd.in_ f) (h2 : f 2 = (body.length : Int)) :
    Hd.same (Hd.parse ((Hd.bytes f body).take 256)) f ∧ Msg.read (Hd.bytes f body) = (0, Hd.parse ((Hd.bytes f body).take 256), body) := by
  have hs : (Sha.sum body).length = 16 := Sha.sum_len body
  have hl := Hd.head_length f _ hs
  have e1 : (Hd.bytes f body).take 256 = Hd.head f (Sha.sum body) := by unfold Hd.bytes; rw [← hl, List.take_left]
  have e2 : (Hd.bytes f body).drop 256 = body := by unfold Hd.bytes; rw [← hl, List.drop_left]
  obtain ⟨h0, hsame⟩ := Hd.read_head f _ hs hok hin
  have hp : (Hd.read (Hd.head f (Sha.sum body))).2 = Hd.parse (Hd.head f (Sha.sum body)) := by
    rcases Hd.read_cases (Hd.head f (Sha.sum body)) with (h | h) | ⟨h, -⟩
    · rw [h] at h0; simp at h0
    · rw [h] at h0; simp at h0
    · rw [h]
  rw [hp] at hsame
  have e3 : ((Hd.bytes f body).drop 16).take 16 = Sha.sum body := by
    unfold Hd.bytes Hd.head Hd.rest
    simp only [List.append_assoc]
    rw [← Sha.sum_len (Hd.rest f (Sha.sum body)), show Sha.sum (Hd.rest f (Sha.sum body)) = Sha.sum (Sha.sum body ++ (Hd.mid f ++ List.replicate 148 0)) from rfl, List.drop_left, Sha.sum_len, ← hs, List.take_left]
  have hlen : (Hd.bytes f body).length = 256 + body.length := by unfold Hd.bytes; rw [List.length_append, hl]
  rw [e1]
  refine ⟨hsame, ?_⟩
  unfold Msg.read
  rw [if_neg (by omega), e1, if_neg (by rw [h0]; simp), if_neg (by rw [hsame 2 (by omega), h2, hlen, Nat.add_sub_cancel_left]; simp), e2, e3, if_neg (by simp)]
/-- What is opened is a message that is sealed as the same bytes. -/
theorem Msg.read_ok (r : List UInt8) (h : (Msg.read r).1 = 0) : 256 ≤ r.length ∧ Msg.read r = (0, Hd.parse (r.take 256), r.drop 256) ∧ Hd.ok (Hd.parse (r.take 256)) = true ∧ Hd.parse (r.take 256) 2 = ((r.drop 256).length : Int) ∧
    Hd.bytes (Hd.parse (r.take 256)) (r.drop 256) = r ∧ Sha.sum (r.drop 256) = (r.drop 16).take 16 ∧ Sha.sum ((r.take 256).drop 16) = r.take 16 := by
  unfold Msg.read at h ⊢
  by_cases h1 : r.length < 256
  · rw [if_pos h1] at h; simp at h
  rw [if_neg h1] at h ⊢
  by_cases h2 : (Hd.read (r.take 256)).1 ≠ 0
  · rw [if_pos h2] at h; exact absurd h h2
  rw [if_neg h2] at h ⊢
  by_cases h3 : ((r.length - 256 : Nat) : Int) ≠ Hd.parse (r.take 256) 2
  · rw [if_pos h3] at h; simp at h
  rw [if_neg h3] at h ⊢
  by_cases h4 : Sha.sum (r.drop 256) ≠ (r.drop 16).take 16
  · rw [if_pos h4] at h; simp at h
  rw [if_neg h4]
  have h4' : Sha.sum (r.drop 256) = (r.drop 16).take 16 := by simpa using h4
  have h3' : ((r.length - 256 : Nat) : Int) = Hd.parse (r.take 256) 2 := by simpa using h3
  rcases Hd.read_cases (r.take 256) with (hx | hx) | ⟨hx, hl, hok, hh⟩
  · rw [hx] at h2; simp at h2
  · rw [hx] at h2; simp at h2
  have e : ((r.take 256).drop 16).take 16 = (r.drop 16).take 16 := by rw [List.drop_take, List.take_take]; simp
  rw [e, ← h4'] at hh
  refine ⟨by omega, rfl, hok, by rw [← h3', List.length_drop], ?_, h4', ?_⟩
  · unfold Hd.bytes; rw [hh, List.take_append_drop]
  · have hx2 : Sha.sum ((r.take 256).drop 16) = (r.take 256).take 16 := by
      by_cases hc : Sha.sum ((r.take 256).drop 16) = (r.take 256).take 16
      · exact hc
      · exfalso
        unfold Hd.read at hx
        rw [if_neg (by rw [hl]; simp), if_pos hc] at hx
        simp at hx
    rw [hx2, List.take_take]; simp
theorem Hd.bytes_length (f : HdF) (body : List UInt8) : (Hd.bytes f body).length = 256 + body.length := by
  unfold Hd.bytes; rw [List.length_append, Hd.head_length f _ (Sha.sum_len body)]
/-! ### The chapter's message -/
end Go.Proofs.YtfoegmjpfkmggaaDoor

/- A message as an argument: what its cells are; what the two functions that seal messages answer, whatever the message. Condition: the body can be read. -/
namespace Go.Proofs.YtfoegmjpfkmggaaDoor
open Go.RowKit
/-- What a message is sealed as: the error's number, the bytes. -/
def Msg.seal_ (f : HdF) (body : List UInt8) : Int × List UInt8 :=
  if 1024 < body.length then (3, []) else if Hd.ok (setF f 2 body.length) = true then (0, Hd.bytes (setF f 2 body.length) body) else (2, [])
theorem hseal_any (f : HdF) (A : Option Addr) (n c : Nat) (body : List UInt8) (w : World) (hn : n = body.length) (hby : Bytes w A body) (hc : n ≤ c ∧ c ≤ 9223372036854775807) (hin : Hd.in_ f) :
    Calls Tryd.prog 44 #[.agg (msgc f (.slice A n c))] w fun e w' => ∃ E : Ent, e = .returned (.tuple #[E.val, .int .i64 (Msg.seal_ f body).1]) ∧ E.Is w' ∧ (∀ g, E.blk = some g → w.heap.size ≤ g) ∧ E.n = E.l.length ∧
      E.l = (Msg.seal_ f body).2 ∧ Below w.heap.size w w' := by
  subst hn
  by_cases h1 : 1024 < body.length
  · rw [show Msg.seal_ f body = (3, []) by unfold Msg.seal_; rw [if_pos h1]]
    refine (hseal_long f A c body w h1).mono ?_
    rintro e w' ⟨rfl, hB⟩
    exact ⟨⟨none, 0, []⟩, rfl, ⟨Nat.le_refl _, by simp, .inl ⟨rfl, rfl⟩⟩, fun g h => (by cases h), rfl, rfl, hB⟩
  · cases h2 : Hd.ok (setF f 2 body.length)
    · rw [show Msg.seal_ f body = (2, []) by unfold Msg.seal_; rw [if_neg h1, if_neg (by rw [h2]; simp)]]
      refine (hseal_no f A c body w (by omega) h2).mono ?_
      rintro e w' ⟨rfl, hB⟩
      exact ⟨⟨none, 0, []⟩, rfl, ⟨Nat.le_refl _, by simp, .inl ⟨rfl, rfl⟩⟩, fun g h => (by cases h), rfl, rfl, hB⟩
    · rw [show Msg.seal_ f body = (0, Hd.bytes (setF f 2 body.length) body) by unfold Msg.seal_; rw [if_neg h1, if_pos h2]]
      refine (hseal_ok f A c body w hby hc (by omega) h2 hin).mono ?_
      rintro e w' ⟨g, rfl, hg, hb, hB⟩
      have hl := Hd.bytes_length (setF f 2 body.length) body
      refine ⟨⟨some ⟨g, 0, none⟩, 256 + body.length, Hd.bytes (setF f 2 body.length) body⟩, ?_, ⟨by simp only; omega, by simp only; omega, .inr ⟨g, _, rfl, hb⟩⟩, fun g' h => ?_, hl.symm, rfl, hB⟩
      · unfold Ent.val; simp only; rw [hl]
      · unfold Ent.blk at h; simp at h; omega
end Go.Proofs.YtfoegmjpfkmggaaDoor

/- Two headers compared, two messages compared. Conditions: the bodies can be read. -/
namespace Go.Proofs.YtfoegmjpfkmggaaDoor
open Go.RowKit
theorem hdc_lit (f : HdF) : hdc f = #[.int .i64 (f 0), .int .i64 (f 1), .int .i64 (f 2), .int .i64 (f 3), .int .i64 (f 4), .int .i64 (f 5), .int .i64 (f 6), .int .i64 (f 7), .int .i64 (f 8), .int .u64 (f 9), .int .u64 (f 10), .int .i64 (f 11), .int .i64 (f 12), .int .u64 (f 13), .int .i64 (f 14), .int .i64 (f 15)] := by rfl
def Hd.beq (f g : HdF) : Bool := (f 0 == g 0) && (f 1 == g 1) && (f 2 == g 2) && (f 3 == g 3) && (f 4 == g 4) && (f 5 == g 5) && (f 6 == g 6) && (f 7 == g 7) && (f 8 == g 8) && (f 9 == g 9) && (f 10 == g 10) && (f 11 == g 11) && (f 12 == g 12) && (f 13 == g 13) && (f 14 == g 14) && (f 15 == g 15)
theorem Hd.beq_same (f g : HdF) : Hd.beq f g = true ↔ Hd.same f g := by
  unfold Hd.beq Hd.same
  simp only [Bool.and_eq_true, beq_iff_eq]
  constructor
  · intro h i hi
    have : i = 0 ∨ i = 1 ∨ i = 2 ∨ i = 3 ∨ i = 4 ∨ i = 5 ∨ i = 6 ∨ i = 7 ∨ i = 8 ∨ i = 9 ∨ i = 10 ∨ i = 11 ∨ i = 12 ∨ i = 13 ∨ i = 14 ∨ i = 15 := by omega
    rcases this with rfl | rfl | rfl | rfl | rfl | rfl | rfl | rfl | rfl | rfl | rfl | rfl | rfl | rfl | rfl | rfl <;> simp only [h]
  · intro h
    simp only [h 0 (by omega), h 1 (by omega), h 2 (by omega), h 3 (by omega), h 4 (by omega), h 5 (by omega), h 6 (by omega), h 7 (by omega), h 8 (by omega), h 9 (by omega), h 10 (by omega), h 11 (by omega), h 12 (by omega), h 13 (by omega), h 14 (by omega), h 15 (by omega), and_self]
theorem noselHd : Tryd.prog.eqGuardType Tryd.prog.depth 35 = false := by kernel_rfl
theorem heldHd : Tryd.prog.stoodInHeld 35 = false := by kernel_rfl
set_option maxRecDepth 100000 in
set_option maxHeartbeats 4000000 in
theorem eqHd (w : World) (f g : HdF) : (Op.equalIn 10000 35 (.agg (hdc f)) (.agg (hdc g))).run Tryd.prog w = .ok (Hd.beq f g) w := by
  have hu : Tryd.prog.underlying 35 = some (.struct (Tryd.prog.fieldsOf 35)) := by kernel_rfl
  rw [show (10000 : Nat) = 9999 + 1 from rfl, run_equalIn_struct w 9999 35 _ _ hu heldHd]
  have e : Tryd.prog.fieldsOf 35 = (match Tryd.prog.underlying 35 with | some (.struct fs) => fs | _ => #[]) := rfl
  rw [e, Tryd.underlying35, hdc_lit, hdc_lit]
  have ei := Tryd.underlying3
  have ej := Tryd.underlying31
  simp [Op.eqFields, part, go_sem, ei, ej]
  by_cases h0 : f 0 = g 0
  case neg => rw [if_neg h0]; simp [Hd.beq, h0]
  rw [if_pos h0]
  by_cases h1 : f 1 = g 1
  case neg => rw [if_neg h1]; simp [Hd.beq, h1]
  rw [if_pos h1]
  by_cases h2 : f 2 = g 2
  case neg => rw [if_neg h2]; simp [Hd.beq, h2]
  rw [if_pos h2]
  by_cases h3 : f 3 = g 3
  case neg => rw [if_neg h3]; simp [Hd.beq, h3]
  rw [if_pos h3]
  by_cases h4 : f 4 = g 4
  case neg => rw [if_neg h4]; simp [Hd.beq, h4]
  rw [if_pos h4]
  by_cases h5 : f 5 = g 5
  case neg => rw [if_neg h5]; simp [Hd.beq, h5]
  rw [if_pos h5]
  by_cases h6 : f 6 = g 6
  case neg => rw [if_neg h6]; simp [Hd.beq, h6]
  rw [if_pos h6]
  by_cases h7 : f 7 = g 7
  case neg => rw [if_neg h7]; simp [Hd.beq, h7]
  rw [if_pos h7]
  by_cases h8 : f 8 = g 8
  case neg => rw [if_neg h8]; simp [Hd.beq, h8]
  rw [if_pos h8]
  by_cases h9 : f 9 = g 9
  case neg => rw [if_neg h9]; simp [Hd.beq, h9]
  rw [if_pos h9]
  by_cases h10 : f 10 = g 10
  case neg => rw [if_neg h10]; simp [Hd.beq, h10]
  rw [if_pos h10]
  by_cases h11 : f 11 = g 11
  case neg => rw [if_neg h11]; simp [Hd.beq, h11]
  rw [if_pos h11]
  by_cases h12 : f 12 = g 12
  case neg => rw [if_neg h12]; simp [Hd.beq, h12]
  rw [if_pos h12]
  by_cases h13 : f 13 = g 13
  case neg => rw [if_neg h13]; simp [Hd.beq, h13]
  rw [if_pos h13]
  by_cases h14 : f 14 = g 14
  case neg => rw [if_neg h14]; simp [Hd.beq, h14]
  rw [if_pos h14]
  by_cases h15 : f 15 = g 15
  case neg => rw [if_neg h15]; simp [Hd.beq, h15]
  rw [if_pos h15]
  simp [Hd.beq, h0, h1, h2, h3, h4, h5, h6, h7, h8, h9, h10, h11, h12, h13, h14, h15]
theorem exec_eql_hd {o : Oper} {ac : Act} (w : World) (x y : Operand) (r : TypeId) (ho : o.op = .binOp .eql 35 x y r) (f g : HdF) (hx : ac.eval x = .agg (hdc f)) (hy : ac.eval y = .agg (hdc g)) :
    (execOp ac.eval o).run Tryd.prog w = .ok (.value (.bool (Hd.beq f g))) w := by
  unfold execOp
  simp only [ho, hx, hy, Sem.run_bind, run_eqGuard_agg w .eql 35 x y _ _ noselHd, Result.andThen_ok, run_eql_struct, eqHd, Sem.run_pure]
set_option maxHeartbeats 1000000 in
theorem sameMessage_any (f g : HdF) (A B : Option Addr) (n m c d : Nat) (l l' : List UInt8) (hn : n = l.length) (hm : m = l'.length) (w : World) (h : Bytes w A l) (h' : Bytes w B l') :
    Calls Tryd.prog 17 #[.agg (msgc f (.slice A n c)), .agg (msgc g (.slice B m d))] w fun e w' => e = .returned (.bool (Hd.beq f g && decide (l = l'))) ∧ Below w.heap.size w w' := by
  have hg1 := (Blk.new w 38 (msgc f (.slice A n c))).alloc (.cells (msgc g (.slice B m d)) 38)
  have hg2 := Blk.new' (w.alloc (.cells (msgc f (.slice A n c)) 38)) 38 (msgc g (.slice B m d)) (n := w.heap.size + 1) (by simp)
  have hB := Lib.hid (((Below.refl w.heap.size w).alloc (Nat.le_refl _) (.cells (msgc f (.slice A n c)) 38)).alloc (by simp) (.cells (msgc g (.slice B m d)) 38))
  have HR1 := Lib.hid (hd_range hg1)
  have HR2 := Lib.hid (hd_range hg2)
  have d1 := hg1.at_ 16 (msgc_16 f _)
  have d2 := hg2.at_ 16 (msgc_16 g _)
  have HN := Lib.hid (And.intro hn hm)
  clear hg1 hg2 hn hm
  cases hb : Hd.beq f g
  · rw [Bool.false_and]
    have HB := Lib.hid hb
    clear hb
    go_enter Tryd.func17, Tryd.ntmps17
    go_wp2_with (first
      | (show wpList _ _ _ ((⟨some 6, _, _, _, _, _⟩ : Oper) :: _) _ _; refine wpList_load_mid (o := ⟨some 6, _, _, _, _, _⟩) HR1.out (by rfl) _ _ (by rfl) (by rfl) _ Tryd.underlying35 (by rfl) sizeHd (by rw [Array.length_toList, hdc_size]) ?_; rw [Array.toArray_toList])
      | (show wpList _ _ _ ((⟨some 8, _, _, _, _, _⟩ : Oper) :: _) _ _; refine wpList_load_mid (o := ⟨some 8, _, _, _, _, _⟩) HR2.out (by rfl) _ _ (by rfl) (by rfl) _ Tryd.underlying35 (by rfl) sizeHd (by rw [Array.length_toList, hdc_size]) ?_; rw [Array.toArray_toList])
      | (show wpList _ _ _ ((⟨some 9, _, _, _, _, _⟩ : Oper) :: _) _ _; refine wpList_run (o := ⟨some 9, _, _, _, _, _⟩) _ (by rfl) (exec_eql_hd _ _ _ _ (by rfl) f g (by rfl) (by rfl)) ?_; rw [HB.out])
      | fail)
    go_ret
    exact ⟨rfl, hB.out⟩
  · rw [Bool.true_and]
    have HB := Lib.hid hb
    clear hb
    go_enter Tryd.func17, Tryd.ntmps17
    go_wp2_with (first
      | (show wpList _ _ _ ((⟨some 6, _, _, _, _, _⟩ : Oper) :: _) _ _; refine wpList_load_mid (o := ⟨some 6, _, _, _, _, _⟩) HR1.out (by rfl) _ _ (by rfl) (by rfl) _ Tryd.underlying35 (by rfl) sizeHd (by rw [Array.length_toList, hdc_size]) ?_; rw [Array.toArray_toList])
      | (show wpList _ _ _ ((⟨some 8, _, _, _, _, _⟩ : Oper) :: _) _ _; refine wpList_load_mid (o := ⟨some 8, _, _, _, _, _⟩) HR2.out (by rfl) _ _ (by rfl) (by rfl) _ Tryd.underlying35 (by rfl) sizeHd (by rw [Array.length_toList, hdc_size]) ?_; rw [Array.toArray_toList])
      | (show wpList _ _ _ ((⟨some 9, _, _, _, _, _⟩ : Oper) :: _) _ _; refine wpList_run (o := ⟨some 9, _, _, _, _, _⟩) _ (by rfl) (exec_eql_hd _ _ _ _ (by rfl) f g (by rfl) (by rfl)) ?_; rw [HB.out])
      | fail)
    refine (sameBytes_any A B n m c d l l' HN.out.1 HN.out.2 _ (Bytes.below h hB.out) (Bytes.below h' hB.out)).mono ?_
    rintro e w2 ⟨rfl, hbx⟩
    have hB2 := Lib.hid (show Below w.heap.size w w2 by rw [hbx]; exact hB.out)
    clear hbx HR1 HR2 d1 d2 hB
    go_wp2
    go_ret
    exact ⟨rfl, hB2.out⟩
end Go.Proofs.YtfoegmjpfkmggaaDoor

/- A message's cells, its seal, what is read again; lists filled up with noughts. Plain facts. No condition. -/
namespace Go
open Go.RowKit
instance {w w' : World} {e : Ent} : KeepsTo w w' (e.Is w) (e.Is w') := ⟨fun hb h => h.below hb h.lt⟩
theorem OwnB.bytes {e : TypeId} {w : World} {base n c : Nat} {A : Option Addr} {l sp : List UInt8} (h : OwnB e w base (.slice A n c) l sp) : Bytes w A l := by
  obtain ⟨A', c', h1, _, _, hb⟩ := OwnB.open_ h
  injection h1 with h1 h2 h3
  subst h1
  exact hb
end Go
namespace Go.Proofs.YtfoegmjpfkmggaaDoor
open Go.RowKit
theorem hd_mid {w : World} {g : Nat} {t : TypeId} {f : HdF} {v : Value} (h : Blk w g t (msgc f v)) : ∀ w', Below w.heap.size w w' → w'.rangeAt g 0 (hdc f).toList := fun _ hw => hd_range (h.below hw h.lt)
theorem msgc_at (f : HdF) (v : Value) (i : Nat) (h : i < 9) : (msgc f v)[i]? = some (.int .i64 (f i)) := by rw [msgc_hd f v i (by omega)]; exact hdc_at f i (by omega) (by omega) (by omega) (by omega)
theorem hdc_at9 (f : HdF) (i : Nat) (h : i < 9) : (hdc f)[i]? = some (.int .i64 (f i)) := hdc_at f i (by omega) (by omega) (by omega) (by omega)
theorem setF_self (f : HdF) (i : Nat) (v : Int) (h : f i = v) : setF f i v = f := by
  funext j; unfold setF; by_cases e : j = i
  · rw [if_pos e, e, h]
  · rw [if_neg e]
theorem Msg.seal_cases (f : HdF) (l : List UInt8) : (Msg.seal_ f l = (0, Hd.bytes (setF f 2 l.length) l) ∧ l.length ≤ 1024 ∧ Hd.ok (setF f 2 l.length) = true) ∨ (∃ c : Int, c ≠ 0 ∧ Msg.seal_ f l = (c, [])) := by
  unfold Msg.seal_
  by_cases h1 : 1024 < l.length
  · rw [if_pos h1]; exact .inr ⟨3, by omega, rfl⟩
  · rw [if_neg h1]
    by_cases h2 : Hd.ok (setF f 2 l.length) = true
    · rw [if_pos h2]; exact .inl ⟨rfl, by omega, h2⟩
    · rw [if_neg h2]; exact .inr ⟨2, by omega, rfl⟩
/-! ### Filled up with noughts -/
def fillN (N : Nat) (P : List UInt8) : List UInt8 := P ++ List.replicate (N - P.length) 0
theorem fillN_length (N : Nat) (P : List UInt8) (h : P.length ≤ N) : (fillN N P).length = N := by unfold fillN; rw [List.length_append, List.length_replicate]; omega
theorem fillN_take (N : Nat) (P : List UInt8) (k : Nat) (h : k ≤ P.length) : (fillN N P).take k = P.take k := by unfold fillN; rw [List.take_append_of_le_length h]
/-! ### Slots -/
def Slot.of (x : Int) : Int := if x < 0 then 0 else x % 16
theorem Slot.of_bounds (x : Int) : 0 ≤ Slot.of x ∧ Slot.of x < 16 := by
  unfold Slot.of
  by_cases h : x < 0
  · rw [if_pos h]; omega
  · rw [if_neg h]; omega
def Slot.is (f : HdF) (n : Int) : Bool := (f 0 == 2) && (decide (1 ≤ f 5) && (Slot.of (f 5) == n))
/-- A slot's bytes of a prepare: the error's number, the bytes. -/
def Slot.bytes (f : HdF) (body : List UInt8) : Int × List UInt8 :=
  if (Msg.seal_ f body).1 = 0 then (if Slot.is f (Slot.of (f 5)) = true then (0, fillN 1280 (Msg.seal_ f body).2) else (2, [])) else ((Msg.seal_ f body).1, [])
/-- The header that says that a slot is unwritten. -/
def Slot.fU (n : Int) : HdF := fun i => if i = 0 then 1 else if i = 14 then n else 0
def Slot.unw (n : Int) : Int × List UInt8 := if n < 0 ∨ 16 ≤ n then (5, []) else (0, Hd.bytes (Slot.fU n) [])
theorem Slot.fU_ok (n : Int) (h : 0 ≤ n ∧ n < 16) : Hd.ok (Slot.fU n) = true ∧ Hd.in_ (Slot.fU n) ∧ setF (Slot.fU n) 2 0 = Slot.fU n := by
  refine ⟨?_, ?_, setF_self _ _ _ rfl⟩
  · unfold Hd.ok tenI numOk Slot.fU
    simp
    omega
  · unfold Hd.in_ Slot.fU; simp
theorem Slot.unw_seal (n : Int) (h : 0 ≤ n ∧ n < 16) : Msg.seal_ (Slot.fU n) [] = (0, Hd.bytes (Slot.fU n) []) := by
  obtain ⟨h1, _, h3⟩ := Slot.fU_ok n h
  have h0 : (([] : List UInt8).length : Int) = 0 := rfl
  unfold Msg.seal_
  rw [if_neg (by simp), h0, h3, if_pos h1]
end Go.Proofs.YtfoegmjpfkmggaaDoor

/- An op's slot; is a header that of a prepare of a slot: the program's and the document's. No condition. -/
namespace Go.Proofs.YtfoegmjpfkmggaaDoor
open Go.RowKit
theorem sof_any (x : Int) (w : World) : Calls Tryd.prog 22 #[.int .i64 x] w fun e w' => e = .returned (.int .i64 (Slot.of x)) ∧ w' = w := by
  unfold Slot.of
  by_cases h : x < 0
  · rw [if_pos h]
    go_enter Tryd.func22, Tryd.ntmps22
    go_wp2
    go_ret
    exact ⟨rfl, rfl⟩
  · rw [if_neg h]
    have h1 : 0 ≤ x := by omega
    go_enter Tryd.func22, Tryd.ntmps22
    go_wp2
    go_ret
    exact ⟨rfl, rfl⟩
set_option maxHeartbeats 1000000 in
theorem sis_any (f : HdF) (n : Int) (w : World) : Calls Tryd.prog 45 #[.agg (hdc f), .int .i64 n] w fun e w' => e = .returned (.bool (Slot.is f n)) ∧ Below w.heap.size w w' := by
  have hB := Lib.hid ((Below.refl w.heap.size w).alloc (Nat.le_refl _) (.cells (hdc f) 35))
  have hg := Blk.new w 35 (hdc f)
  have d0 := hg.at_ 0 (hdc_at9 f 0 (by omega))
  have d5 := hg.at_ 5 (hdc_at9 f 5 (by omega))
  clear hg
  unfold Slot.is
  cases h0 : (f 0 == 2)
  · rw [Bool.false_and]
    go_enter Tryd.func45, Tryd.ntmps45
    go_wp2
    go_ret
    exact ⟨rfl, hB.out⟩
  · rw [Bool.true_and]
    cases h1 : decide (1 ≤ f 5)
    · rw [Bool.false_and]
      go_enter Tryd.func45, Tryd.ntmps45
      go_wp2
      go_ret
      exact ⟨rfl, hB.out⟩
    · rw [Bool.true_and]
      obtain ⟨o, ho⟩ : ∃ o, o = Slot.of (f 5) := ⟨_, rfl⟩
      rw [← ho]
      have HO := Lib.hid ho
      clear ho
      go_enter Tryd.func45, Tryd.ntmps45
      go_wp2_with fail
      refine (sof_any (f 5) _).mono ?_
      rintro e w2 ⟨rfl, hw⟩
      rw [← HO.out]
      have HB := Lib.hid (show Below w.heap.size w w2 by rw [hw]; exact hB.out)
      clear hw hB d0 d5
      go_wp2
      go_ret
      exact ⟨rfl, HB.out⟩
end Go.Proofs.YtfoegmjpfkmggaaDoor

/- What stands in a slot, and how a slot is, by its bytes: plain facts. No condition. -/
namespace Go.Proofs.YtfoegmjpfkmggaaDoor
def Slot.no : Bool × HdF × List UInt8 := (false, Hd.none_, [])
/-- The prepare at the front of bytes: is there one, its numbers, its body. -/
def Slot.prep (b : List UInt8) (n : Int) : Bool × HdF × List UInt8 :=
  if b.length < 256 then Slot.no
  else if (Hd.read (b.take 256)).1 ≠ 0 then Slot.no
  else if Slot.is (Hd.parse (b.take 256)) n = false then Slot.no
  else if ((b.length - 256 : Nat) : Int) < Hd.parse (b.take 256) 2 then Slot.no
  else if (Msg.read (b.take (256 + (Hd.parse (b.take 256) 2).toNat))).1 ≠ 0 then Slot.no
  else (true, Hd.parse (b.take 256), (b.drop 256).take (Hd.parse (b.take 256) 2).toNat)
/-- What a slot's header is: 0 broken, 1 unwritten, 2 written; its numbers. -/
def Slot.kind (b : List UInt8) (n : Int) : Int × HdF :=
  if (Hd.read b).1 ≠ 0 then (0, Hd.none_) else if b = Hd.bytes (Slot.fU n) [] then (1, Hd.none_) else if Slot.is (Hd.parse b) n = true then (2, Hd.parse b) else (0, Hd.none_)
def Slot.put (P : Bool × HdF × List UInt8) (K : Int × HdF) (same nought : Bool) : Int × Int × Int × Bool :=
  if (P.1 && (K.1 == 2) && same) = true then (1, P.2.1 5, P.2.1 3, false)
  else if (P.1 && ((K.1 != 2) || decide (K.2 5 < P.2.1 5) || (K.2 5 == P.2.1 5 && decide (K.2 3 < P.2.1 3)))) = true then (1, P.2.1 5, P.2.1 3, true)
  else if K.1 = 2 then (3, K.2 5, K.2 3, false)
  else if K.1 = 0 then (3, 0, 0, false)
  else if nought = true then (4, 0, 0, false) else (2, 0, 0, false)
def Slot.judge (h p : List UInt8) (n : Int) : Int × Int × Int × Bool :=
  if n < 0 ∨ 16 ≤ n then (0, 0, 0, false) else Slot.put (Slot.prep p n) (Slot.kind h n) (decide (h = p.take 256)) (p.all (· == 0))
theorem Slot.judge_in (h p : List UInt8) (n : Int) (hn : 0 ≤ n ∧ n < 16) : Slot.judge h p n = Slot.put (Slot.prep p n) (Slot.kind h n) (decide (h = p.take 256)) (p.all (· == 0)) := by
  unfold Slot.judge; rw [if_neg (by omega)]
theorem Slot.is_same {f g : HdF} (h : Hd.same f g) (n : Int) : Slot.is f n = Slot.is g n := by
  unfold Slot.is; rw [h 0 (by omega), h 5 (by omega)]
theorem Hd.bytes_take (f : HdF) (l : List UInt8) : (Hd.bytes f l).take 256 = Hd.head f (Sha.sum l) := by
  have hl := Hd.head_length f _ (Sha.sum_len l)
  unfold Hd.bytes; rw [← hl, List.take_left]
theorem Hd.bytes_drop (f : HdF) (l : List UInt8) : (Hd.bytes f l).drop 256 = l := by
  have hl := Hd.head_length f _ (Sha.sum_len l)
  unfold Hd.bytes; rw [← hl, List.drop_left]
theorem Hd.read_bytes (f : HdF) (l : List UInt8) (hok : Hd.ok f = true) (hin : Hd.in_ f) : Hd.read ((Hd.bytes f l).take 256) = (0, Hd.parse ((Hd.bytes f l).take 256)) ∧ Hd.same (Hd.parse ((Hd.bytes f l).take 256)) f := by
  rw [Hd.bytes_take]
  obtain ⟨h0, hsame⟩ := Hd.read_head f _ (Sha.sum_len l) hok hin
  rcases Hd.read_cases (Hd.head f (Sha.sum l)) with (h | h) | ⟨h, -⟩
  · rw [h] at h0; simp at h0
  · rw [h] at h0; simp at h0
  · rw [h] at hsame; exact ⟨h, hsame⟩
/-- Bytes at whose front a message's bytes stand. -/
theorem Slot.prep_bytes (b : List UInt8) (f : HdF) (l : List UInt8) (n : Int) (hb : b.take (256 + l.length) = Hd.bytes f l) (hok : Hd.ok f = true) (hin : Hd.in_ f) (h2 : f 2 = (l.length : Int)) (hi : Slot.is f n = true) :
    Slot.prep b n = (true, Hd.parse (b.take 256), l) ∧ Hd.same (Hd.parse (b.take 256)) f ∧ b.take 256 = (Hd.bytes f l).take 256 := by
  have hbl := Hd.bytes_length f l
  have hlen : 256 + l.length ≤ b.length := by
    have h := congrArg List.length hb
    rw [List.length_take, hbl] at h; omega
  have ht : b.take 256 = (Hd.bytes f l).take 256 := by rw [← hb, List.take_take, Nat.min_eq_left (by omega)]
  obtain ⟨hr, hs⟩ := Hd.read_bytes f l hok hin
  obtain ⟨_, hm⟩ := Msg.read_bytes f l hok hin h2
  have hd : (b.drop 256).take l.length = l := by rw [List.take_drop, hb, Hd.bytes_drop]
  have h2' : Hd.parse ((Hd.bytes f l).take 256) 2 = (l.length : Int) := by rw [hs 2 (by omega), h2]
  refine ⟨?_, by rw [ht]; exact hs, ht⟩
  unfold Slot.prep
  rw [if_neg (by omega), ht, if_neg (by rw [hr]; simp), if_neg (by rw [Slot.is_same hs, hi]; simp), h2', if_neg (by omega), Int.toNat_natCast, hb, if_neg (by rw [hm]; simp), hd]
/-- A prepare that is whole: what it is. -/
theorem Slot.prep_ok (b : List UInt8) (n : Int) (h : (Slot.prep b n).1 = true) : ∃ s : Nat, 256 + s ≤ b.length ∧ (Hd.read (b.take 256)).1 = 0 ∧ Hd.read (b.take 256) = (0, Hd.parse (b.take 256)) ∧ Hd.parse (b.take 256) 2 = (s : Int) ∧ Slot.is (Hd.parse (b.take 256)) n = true ∧
    Slot.prep b n = (true, Hd.parse (b.take 256), (b.drop 256).take s) ∧ Msg.read (b.take (256 + s)) = (0, Hd.parse (b.take 256), (b.drop 256).take s) ∧ Sha.sum ((b.drop 256).take s) = (b.drop 16).take 16 := by
  unfold Slot.prep at h ⊢
  by_cases h1 : b.length < 256
  · rw [if_pos h1] at h; simp [Slot.no] at h
  rw [if_neg h1] at h ⊢
  by_cases h2 : (Hd.read (b.take 256)).1 ≠ 0
  · rw [if_pos h2] at h; simp [Slot.no] at h
  rw [if_neg h2] at h ⊢
  by_cases h3 : Slot.is (Hd.parse (b.take 256)) n = false
  · rw [if_pos h3] at h; simp [Slot.no] at h
  rw [if_neg h3] at h ⊢
  by_cases h4 : ((b.length - 256 : Nat) : Int) < Hd.parse (b.take 256) 2
  · rw [if_pos h4] at h; simp [Slot.no] at h
  rw [if_neg h4] at h ⊢
  by_cases h5 : (Msg.read (b.take (256 + (Hd.parse (b.take 256) 2).toNat))).1 ≠ 0
  · rw [if_pos h5] at h; simp [Slot.no] at h
  rw [if_neg h5]
  have h2' : (Hd.read (b.take 256)).1 = 0 := by simpa using h2
  have h5' : (Msg.read (b.take (256 + (Hd.parse (b.take 256) 2).toNat))).1 = 0 := by simpa using h5
  have hrd : Hd.read (b.take 256) = (0, Hd.parse (b.take 256)) := by
    rcases Hd.read_cases (b.take 256) with (h | h) | ⟨h, -⟩
    · rw [h] at h2'; simp at h2'
    · rw [h] at h2'; simp at h2'
    · exact h
  have hok : 0 ≤ Hd.parse (b.take 256) 2 := by unfold Hd.parse; rw [if_pos (by omega)]; omega
  obtain ⟨s, hs⟩ : ∃ s : Nat, Hd.parse (b.take 256) 2 = (s : Int) := ⟨(Hd.parse (b.take 256) 2).toNat, by omega⟩
  rw [hs] at h4 h5' ⊢
  rw [Int.toNat_natCast] at h5' ⊢
  have hle : 256 + s ≤ b.length := by omega
  obtain ⟨_, hm, _, _, _, hb, _⟩ := Msg.read_ok _ h5'
  have e1 : (b.take (256 + s)).take 256 = b.take 256 := by rw [List.take_take, Nat.min_eq_left (by omega)]
  have e2 : (b.take (256 + s)).drop 256 = (b.drop 256).take s := by rw [List.drop_take, show 256 + s - 256 = s by omega]
  have e3 : ((b.take (256 + s)).drop 16).take 16 = (b.drop 16).take 16 := by rw [List.drop_take, List.take_take, Nat.min_eq_left (by omega)]
  rw [e1, e2] at hm
  rw [e2, e3] at hb
  exact ⟨s, hle, h2', hrd, rfl, by simpa using h3, rfl, hm, hb⟩
/-- The numbers a header's bytes say: where they may not be, it is not read. -/
theorem Hd.read_no (r : List UInt8) (h : Hd.ok (Hd.parse r) = false) : (Hd.read r).1 ≠ 0 := by
  rcases Hd.read_cases r with (hx | hx) | ⟨_, _, hx, _⟩
  · rw [hx]; simp
  · rw [hx]; simp
  · rw [h] at hx; cases hx
theorem Slot.kind_broken {b : List UInt8} {n : Int} (h : (Hd.read b).1 ≠ 0) : Slot.kind b n = (0, Hd.none_) := by unfold Slot.kind; rw [if_pos h]
theorem Slot.fU_bytes (n : Int) (h : 0 ≤ n ∧ n < 16) : (Hd.bytes (Slot.fU n) []).length = 256 ∧ Hd.read (Hd.bytes (Slot.fU n) []) = (0, Hd.parse (Hd.bytes (Slot.fU n) [])) ∧ Hd.same (Hd.parse (Hd.bytes (Slot.fU n) [])) (Slot.fU n) := by
  obtain ⟨h1, h2, _⟩ := Slot.fU_ok n h
  have hl : (Hd.bytes (Slot.fU n) []).length = 256 := Hd.bytes_length _ _
  obtain ⟨h3, h4⟩ := Hd.read_bytes (Slot.fU n) [] h1 h2
  rw [List.take_of_length_le (by omega)] at h3 h4
  exact ⟨hl, h3, h4⟩
theorem Slot.kind_unw (n : Int) (h : 0 ≤ n ∧ n < 16) : Slot.kind (Hd.bytes (Slot.fU n) []) n = (1, Hd.none_) := by
  obtain ⟨_, h1, _⟩ := Slot.fU_bytes n h
  unfold Slot.kind
  rw [if_neg (by rw [h1]; simp), if_pos rfl]
theorem Slot.is_two {f : HdF} {n : Int} (h : Slot.is f n = true) : f 0 = 2 ∧ 1 ≤ f 5 ∧ Slot.of (f 5) = n ∧ 0 ≤ n ∧ n < 16 := by
  unfold Slot.is at h
  simp only [Bool.and_eq_true, beq_iff_eq, decide_eq_true_eq] at h
  have := Slot.of_bounds (f 5)
  exact ⟨h.1, h.2.1, h.2.2, by omega, by omega⟩
theorem Slot.kind_written {b : List UInt8} {n : Int} (hr : Hd.read b = (0, Hd.parse b)) (hi : Slot.is (Hd.parse b) n = true) : Slot.kind b n = (2, Hd.parse b) := by
  obtain ⟨h0, _, _, hn⟩ := Slot.is_two hi
  unfold Slot.kind
  rw [if_neg (by rw [hr]; simp), if_neg ?_, if_pos hi]
  intro e
  have := (Slot.fU_bytes n hn).2.2 0 (by omega)
  rw [← e, h0] at this
  simp [Slot.fU] at this
theorem Slot.kind_bytes (f : HdF) (l : List UInt8) (n : Int) (hok : Hd.ok f = true) (hin : Hd.in_ f) (hi : Slot.is f n = true) : Slot.kind ((Hd.bytes f l).take 256) n = (2, Hd.parse ((Hd.bytes f l).take 256)) := by
  obtain ⟨hr, hs⟩ := Hd.read_bytes f l hok hin
  exact Slot.kind_written hr (by rw [Slot.is_same hs]; exact hi)
end Go.Proofs.YtfoegmjpfkmggaaDoor

/- What says that a slot is unwritten, and a slot's bytes of a prepare: the program's and the document's; bytes compared. Conditions: the bytes can be read; the numbers are what Go's types hold. -/
namespace Go.Proofs.YtfoegmjpfkmggaaDoor
open Go.RowKit
theorem bytesEqual_any (A B : Option Addr) (n m c d : Nat) (l l' : List UInt8) (hn : n = l.length) (hm : m = l'.length) (w : World) (h : Bytes w A l) (h' : Bytes w B l') :
    Calls Tryd.prog 61 #[.slice A n c, .slice B m d] w fun e w' => e = .returned (.bool (decide (l = l'))) ∧ w' = w := by
  subst hn hm
  go_enter Tryd.func61, Tryd.ntmps61
  go_wp2_with (first
    | ((with_reducible show wpList _ _ _ ((⟨some 6, _, _, _, _, _⟩ : Oper) :: _) _ _); refine wpList_convert_str (o := ⟨some 6, _, _, _, _, _⟩) (by rfl) 36 9 5 _ (by rfl) Tryd.underlying36 Tryd.underlying5 Tryd.underlying9 (A) l.length c (l) (by rfl) (by first | rfl | simp) (h) ?_)
    | ((with_reducible show wpList _ _ _ ((⟨some 8, _, _, _, _, _⟩ : Oper) :: _) _ _); refine wpList_convert_str (o := ⟨some 8, _, _, _, _, _⟩) (by rfl) 36 9 5 _ (by rfl) Tryd.underlying36 Tryd.underlying5 Tryd.underlying9 (B) l'.length d (l') (by rfl) (by first | rfl | simp) (h') ?_)
    | fail)
  refine bodyPost_ret (results_tmp rfl _ _ _) rfl ⟨?_, rfl⟩
  simp [str_beq]
theorem fU_cells (n : Int) : msgc (Slot.fU n) (.slice none 0 0) = #[.int .i64 1, .int .i64 0, .int .i64 0, .int .i64 0, .int .i64 0, .int .i64 0, .int .i64 0, .int .i64 0, .int .i64 0, .int .u64 0, .int .u64 0, .int .i64 0, .int .i64 0, .int .u64 0, .int .i64 n, .int .i64 0, .slice none 0 0] := by rfl
theorem nilBytes (w : World) : Bytes w none [] := Reads.nil w none
set_option maxHeartbeats 1000000 in
theorem sunw_any (n : Int) (w : World) : Calls Tryd.prog 36 #[.int .i64 n] w fun e w' => ∃ E : Ent, e = .returned (.tuple #[E.val, .int .i64 (Slot.unw n).1]) ∧ E.Is w' ∧ (∀ g, E.blk = some g → w.heap.size ≤ g) ∧ E.n = E.l.length ∧
      E.l = (Slot.unw n).2 ∧ Below w.heap.size w w' := by
  by_cases h1 : n < 0
  · rw [show Slot.unw n = (5, []) by unfold Slot.unw; rw [if_pos (.inl h1)]]
    go_enter Tryd.func36, Tryd.ntmps36
    go_wp2
    go_ret2
    exact ⟨⟨none, 0, []⟩, rfl, ⟨Nat.le_refl _, by simp, .inl ⟨rfl, rfl⟩⟩, fun g h => (by cases h), rfl, rfl, Below.refl _ _⟩
  · by_cases h2 : 16 ≤ n
    · rw [show Slot.unw n = (5, []) by unfold Slot.unw; rw [if_pos (.inr h2)]]
      go_enter Tryd.func36, Tryd.ntmps36
      go_wp2
      go_ret2
      exact ⟨⟨none, 0, []⟩, rfl, ⟨Nat.le_refl _, by simp, .inl ⟨rfl, rfl⟩⟩, fun g h => (by cases h), rfl, rfl, Below.refl _ _⟩
    · have hU : Hid (Slot.unw n = Msg.seal_ (Slot.fU n) []) := Lib.hid (by rw [Slot.unw_seal n (by omega)]; unfold Slot.unw; rw [if_neg (by omega)])
      have hin := (Slot.fU_ok n (by omega)).2.1
      rw [hU.out]
      clear hU
      go_enter Tryd.func36, Tryd.ntmps36
      go_wp2_with fail
      rw [← fU_cells]
      refine (hseal_any (Slot.fU n) none 0 0 [] w rfl (nilBytes w) ⟨Nat.le_refl _, by omega⟩ hin).mono ?_
      rintro e w2 ⟨E, rfl, hE, hEg, hEn, hEl, hB⟩
      have H := Lib.hid (And.intro hE (And.intro hEg (And.intro hEn (And.intro hEl hB))))
      clear hE hEg hEn hEl hB hin
      go_wp2
      go_ret2
      exact ⟨E, rfl, H.out⟩
end Go.Proofs.YtfoegmjpfkmggaaDoor
