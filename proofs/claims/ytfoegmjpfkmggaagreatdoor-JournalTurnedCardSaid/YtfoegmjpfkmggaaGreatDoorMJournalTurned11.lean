/- A range over a function that yields a fixed row of items; the state ahead of each round is known to the function, too. Plain facts over any program. No condition. -/
import Derived.Test.YtfoegmjpfkmggaaGreatDoorMJournalTurned10
import Derived.RangeFuncWrites
import Derived.RangeFuncBound
import Derived.RangeFuncCalls
import Derived.RangeFuncLeaves
import Derived.WalkKit
import Derived.OwnWalkIn
import Derived.TacticsInMore
import Derived.LoopNIn
import Derived.LoopIn
namespace Go
open Go.RowKit
section
variable {F : Fence} {n : Nat} {P : Program}
/-- The function's part: whoever calls keeps I, from round to round; then all N items are yielded, or the caller stops. -/
def RowOf (F : Fence) (n : Nat) (P : Program) (gf : Nat) (lb : Array Value) (encs : Nat → Array Value) (I : Nat → World → Prop) (N : Nat) : Prop :=
  ∀ (l : Nat) (J : Nat → World → Prop) (Jx : World → Prop) (W : World), (∀ k W, J k W → I k W) → (∀ k W W', J k W → Below W.heap.size W W' → J k W') → (∀ W W', Jx W → Below W.heap.size W W' → Jx W') →
    (∀ k W, J k W → k < N → YieldAt F (n - 1) P l (encs k) W fun e W' => (e = .returned (.bool true) ∧ J (k + 1) W') ∨ (e = .returned (.bool false) ∧ Jx W')) →
    J 0 W → CallsIn F n P gf (#[.func (.yield l) #[] #[]] ++ lb) W fun e W' => (∃ v, e = .returned v) ∧ (J N W' ∨ Jx W')
/-- How a round's body may end. -/
def rowPost (B : Nat) (I : World → Prop) (Ix : Code → World → Prop) (W : World) : Exit → Act → World → Prop
  | .normal, _, W' => KeepsFrom B W W' ∧ I W'
  | .ret, _, W' => KeepsFrom B W W' ∧ Ix .ret W'
  | .exit i, _, W' => KeepsFrom B W W' ∧ Ix (.exit i) W'
  | .goto t, _, W' => KeepsFrom B W W' ∧ Ix (.goto t) W'
  | .panic _, _, _ => False
  | .outgrown, _, _ => False
theorem KeepsFrom.near {B : Nat} {X : List Nat} {W W' : World} (h : Near X W W') (hX : ∀ x ∈ X, x < B) : KeepsFrom B W W' :=
  ⟨h.size, fun k _ hB hk _ => (h.block k (Array.getElem?_eq_some_iff.1 hk).1 (fun e => by have := hX k e; omega)).trans hk⟩
theorem KeepsFrom.below {B : Nat} {W W' : World} (h : Below W.heap.size W W') : KeepsFrom B W W' :=
  ⟨h.size, fun k _ _ hk _ => (h.block k (Array.getElem?_eq_some_iff.1 hk).1).trans hk⟩
/-- What lay below B, and all cells, lie as they lay. -/
structure Kept (B : Nat) (W W' : World) : Prop where
  os : W'.os = W.os
  tape : W'.tape = W.tape
  output : W'.output = W.output
  size : W.heap.size ≤ W'.heap.size
  low : ∀ j, j < B → j < W.heap.size → W'.heap[j]? = W.heap[j]?
  cells : ∀ (j : Nat) (o : Obj), W.heap[j]? = some o → o.isCells = true → W'.heap[j]? = some o
theorem Kept.below {B : Nat} {W W' : World} (h : Below W.heap.size W W') : Kept B W W' :=
  ⟨h.os, h.tape, h.output, h.size, fun j _ hj => h.block j hj, fun j _ hj _ => (h.block j (Array.getElem?_eq_some_iff.1 hj).1).trans hj⟩
theorem Kept.put {B : Nat} {W : World} {l : Nat} {o o' : Obj} (hB : B ≤ l) (hl : W.heap[l]? = some o') (ho : o'.isCells = false) : Kept B W (W.putObj l o) :=
  ⟨rfl, rfl, rfl, by simp [World.putObj], fun j hj _ => World.putObj_heap_other (by omega), fun j o2 hj h2 => by
    by_cases e : j = l
    · subst e; rw [hl] at hj; injection hj with hj; subst hj; rw [ho] at h2; cases h2
    · exact (World.putObj_heap_other e).trans hj⟩
theorem Blk.keptW {B : Nat} {W W' : World} {g : Nat} {t : TypeId} {cs : Array Value} (h : Blk W g t cs) (k : Kept B W W') : Blk W' g t cs := k.cells g _ h rfl
theorem MapB.keptW {B : Nat} {W W' : World} {g : Nat} {es : Array MapEntry} {c : Nat} (h : MapB W g es c) (k : Kept B W W') (hg : g < B) : MapB W' g es c := (k.low g hg h.lt).trans h
theorem Kept.cell {B : Nat} {W W' : World} (k : Kept B W W') {p : Addr} {v : Value} (h : W.cell? p = some v) : W'.cell? p = some v := by
  unfold World.cell? at h ⊢
  split at h
  · rename_i cs t e
    rw [k.cells _ _ e rfl]; exact h
  · cases h
theorem Near.keptW {B : Nat} {X : List Nat} {w W W' : World} (h : Near X w W) (k : Kept B W W') (hB : w.heap.size ≤ B) : Near X w W' :=
  ⟨k.os.trans h.os, k.tape.trans h.tape, k.output.trans h.output, Nat.le_trans h.size k.size, fun j hj hn => (k.low j (by omega) (Nat.lt_of_lt_of_le hj h.size)).trans (h.block j hj hn)⟩
theorem Near.high {X Y : List Nat} {w W W' : World} (h : Near X w W) (k : Near Y W W') (hY : ∀ y ∈ Y, w.heap.size ≤ y) : Near X w W' :=
  ⟨k.os.trans h.os, k.tape.trans h.tape, k.output.trans h.output, Nat.le_trans h.size k.size, fun j hj hn => (k.block j (Nat.lt_of_lt_of_le hj h.size) (fun hx => by have := hY j hx; omega)).trans (h.block j hj hn)⟩
theorem Reads.keptW {B : Nat} {W W' : World} {A : Option Addr} {xs : List Value} (h : Reads W A xs) (k : Kept B W W') : Reads W' A xs := fun hn => by
  obtain ⟨b, off, e, hc⟩ := h hn
  exact ⟨b, off, e, fun j v hv => k.cell (hc j v hv)⟩
theorem wpIn_rangeRow {g : Operand} {ps : Array Tmp} {assign body : Code} {Q : Exit → Act → World → Prop} {a : Act} {w : World}
    (hro : F.round = none) (h1 : 1 ≤ n) {gf : Nat} {lb : Array Value} (hg : a.eval g = .func (.func gf) #[] lb) (hFg : F.fn gf) (eg : ∀ args w, (callFunc gf args).run P w = .ok (.enter gf args) w)
    (encs : Nat → Array Value) (hps : ∀ k, (encs k).size = ps.size) (N : Nat) (I : Nat → World → Prop) (Ix : Code → World → Prop)
    (hI : ∀ k W W', I k W → Kept w.heap.size W W' → I k W') (hIx : ∀ c W W', Ix c W → Kept w.heap.size W W' → Ix c W') (h0 : I 0 w)
    (hrow : RowOf F (n - 1) P gf lb encs I N)
    (hround : ∀ l k W, w.heap.size ≤ l → l < W.heap.size → I k W → k < N → assign.wpIn (F.inRound l) (n - 1 - 1) P
      (Exit.then (fun a₁ W₁ => Below W.heap.size W W₁ ∧ ∀ W₂, Kept w.heap.size W₁ W₂ → body.wpIn (F.inRound l) (n - 1 - 1) P (rowPost w.heap.size (I (k + 1)) Ix W₂) a₁ W₂) (fun _ _ _ => False))
      { tmps := (ps.zip (encs k)).foldl (fun t (p, v) => t.setIfInBounds p v) a.tmps, defers := [] } W)
    (hdone : ∀ D W, w.heap.size ≤ D → I N W → W.heap[D]? = some (.deferred (some [])) → Q .normal { a with defers := { target := .collected D, args := #[] } :: a.defers } W)
    (hstop : ∀ D c W, w.heap.size ≤ D → Ix c W → W.heap[D]? = some (.deferred (some [])) → c.wpIn F n P Q { a with defers := { target := .collected D, args := #[] } :: a.defers } W) :
    (Code.rangeFunc g ps assign body).wpIn F n P Q a w := by
  refine wpIn_rangeFunc fun fn hfn => ?_
  rw [hro]
  -- the loop's record, in a state; the two blocks that the loop lays
  let R : LoopState → Option Code → Obj := fun st pe => .loop { state := st, pending := pe, fn, tmps := a.tmps, params := ps, assign, body, defers := w.heap.size }
  let D := w.heap.size
  let l := w.heap.size + 1
  -- what the loop needs of a world, beside the caller's own
  let Bk : LoopState → Option Code → World → Prop := fun st pe W => W.heap[l]? = some (R st pe) ∧ W.heap[D]? = some (.deferred (some []))
  have bklt : ∀ {st pe W}, Bk st pe W → l < W.heap.size := fun h => (Array.getElem?_eq_some_iff.1 h.1).1
  have bkput : ∀ {st pe W} st' pe', Bk st pe W → Bk st' pe' (W.putObj l (R st' pe')) := fun st' pe' h =>
    ⟨World.putObj_heap_same (bklt h), (World.putObj_heap_other (by show D ≠ l; omega)).trans h.2⟩
  have bkput' : ∀ {st pe W} (o : Obj), Bk st pe W → (W.putObj l o).heap[D]? = some (.deferred (some [])) := fun o h => (World.putObj_heap_other (by show D ≠ l; omega)).trans h.2
  have bkbel : ∀ {st pe W W'}, Bk st pe W → Below W.heap.size W W' → Bk st pe W' := fun h k =>
    ⟨(k.block _ (bklt h)).trans h.1, (k.block _ (by have := bklt h; omega)).trans h.2⟩
  have low : ∀ {st pe W}, Bk st pe W → w.heap.size ≤ W.heap.size := fun h => by have := bklt h; omega
  have put : ∀ {st pe W} (o : Obj), Bk st pe W → Kept w.heap.size W (W.putObj l o) := fun o h => Kept.put (by show D ≤ l; omega) h.1 rfl
  -- the world behind the loop's entry
  let W1 := (w.alloc (.deferred (some []))).alloc (R .ready none)
  have e1 : Below w.heap.size w W1 := ((Below.refl _ w).alloc (Nat.le_refl _) _).alloc (by simp) _
  have b1 : Bk .ready none W1 := by
    refine ⟨?_, ?_⟩
    · have h := World.alloc_heap_new (w.alloc (.deferred (some []))) (R .ready none)
      rwa [World.size_alloc] at h
    · exact (Below.heap_alloc _ _ _ (by rw [World.size_alloc]; exact Nat.lt_succ_self _)).trans (World.alloc_heap_new w _)
  refine ⟨l, [{ target := .collected D, args := #[] }], W1, { target := .fn (.func gf) lb, args := #[.func (.yield l) #[] #[]] }, W1, gf, #[.func (.yield l) #[] #[]] ++ lb, W1,
    run_enterLoop_outer _ _ _ _ _, ?_, ?_, ?_, fun _ => h1, ?_⟩
  · simp only [resolve, hg]
    simp [go_sem]
  · intro f' hf'
    simp [Target.leads] at hf'
    exact hf' ▸ hFg
  · simp [invoke, go_sem, eg]
  refine (hrow l (fun k W => I k W ∧ Bk .ready none W) (fun W => ∃ c, Ix c W ∧ Bk .done (some c) W) W1 (fun _ _ h => h.1)
    (fun k W W' h b => ⟨hI k W W' h.1 (Kept.below b), bkbel h.2 b⟩) (fun W W' h b => by obtain ⟨c, hc, hb⟩ := h; exact ⟨c, hIx c W W' hc (Kept.below b), bkbel hb b⟩) ?_ ⟨hI 0 w W1 h0 (Kept.below e1), b1⟩).mono ?_
  · -- a round
    rintro k W ⟨hi, hb⟩ hk
    refine ⟨fn, _, assign, body, run_yield hb.1 (hps k), roundIn_of_wpIn hfn ?_⟩
    refine wpIn_mono (hround l k W (by show D ≤ l; omega) (bklt hb) hi hk) ?_
    rintro e a1 W2 he
    cases e
    case normal =>
      obtain ⟨hB, hbody⟩ := he
      have hb2 := bkbel hb hB
      refine ⟨_, run_beginRound hb2.1 rfl, ?_⟩
      have hb3 := bkput .busy none hb2
      refine wpIn_mono (hbody _ (Kept.put (by show D ≤ l; omega) hb2.1 rfl)) ?_
      rintro e3 a3 W4 hp
      have fin : KeepsFrom w.heap.size (W2.putObj l (R .busy none)) W4 → Bk .busy none W4 := fun hkf => ⟨hkf.same _ _ (by show D ≤ l; omega) hb3.1 rfl, hkf.same _ _ (Nat.le_refl _) hb3.2 rfl⟩
      cases e3 with
      | normal =>
        have hb4 := fin hp.1
        exact ⟨_, _, run_endRound none hb4.1, .inl ⟨rfl, hI _ _ _ hp.2 (put _ hb4), bkput .ready none hb4⟩⟩
      | ret =>
        have hb4 := fin hp.1
        exact ⟨_, _, run_endRound (some .ret) hb4.1, .inr ⟨rfl, .ret, hIx _ _ _ hp.2 (put _ hb4), bkput .done (some .ret) hb4⟩⟩
      | exit i =>
        have hb4 := fin hp.1
        exact ⟨_, _, run_endRound (some (.exit i)) hb4.1, .inr ⟨rfl, .exit i, hIx _ _ _ hp.2 (put _ hb4), bkput .done (some (.exit i)) hb4⟩⟩
      | goto t =>
        have hb4 := fin hp.1
        exact ⟨_, _, run_endRound (some (.goto t)) hb4.1, .inr ⟨rfl, .goto t, hIx _ _ _ hp.2 (put _ hb4), bkput .done (some (.goto t)) hb4⟩⟩
      | panic ch => exact hp.elim
      | outgrown => exact hp.elim
    all_goals exact he.elim
  · -- behind the function
    rintro e W2 ⟨⟨v, rfl⟩, (⟨hi, hb⟩ | ⟨c, hc, hb⟩)⟩
    · exact ⟨none, _, run_endLoop hb.1 (by simp), hdone D _ (Nat.le_refl _) (hI _ _ _ hi (put _ hb)) (bkput' _ hb)⟩
    · exact ⟨some c, _, run_endLoop hb.1 (by simp), hstop D c _ (Nat.le_refl _) (hIx _ _ _ hc (put _ hb)) (bkput' _ hb)⟩
end
end Go

/- What a call hands back whose first two results lie in blocks; the marks of loops over functions. Plain facts over any program. No condition. -/
namespace Go
open Go.RowKit
/-- What a call hands back that lies in a block. -/
theorem results_row1 {P : Program} {fn : Func} {p : Tmp} {ty : TypeId} (h : fn.results = #[.cell p ty]) (tmps : Array Value) (w : World) (g : Nat) (t : TypeId) (cs : Array Value) (d : TypeDesc)
    (hp : tmps.getD p undef = .pointer (some ⟨g, 0, none⟩)) (hg : Blk w g t cs)
    (hu : P.underlying ty = some d) (hd : (match d with | .struct _ | .array _ _ => true | _ => false) = true) (hi : (P.info? ty).map (·.size) = some cs.size) :
    (results fn tmps).run P w = .ok (.agg cs) w := by
  have hp' : tmps[p]?.getD undef = .pointer (some ⟨g, 0, none⟩) := by simpa using hp
  simp [results, h, hp', asAddr, run_loadVar_row w g t ty cs (0, 0) d hg hu hd hi]
/-- A loop's mark is shut: what a contract speaks of lies as it lay. -/
theorem mark_kept {B : Nat} {W : World} {D : Nat} (hB : B ≤ D) (h : W.heap[D]? = some (.deferred (some []))) : Kept B W (W.putObj D (.deferred none)) := Kept.put hB h rfl
end Go

/- A journal's place; is a disk ready for rings; the calls of a journal that is nil, or that nobody made. Conditions: the disk is known, or is none. -/
namespace Go.Proofs.YtfoegmjpfkmggaaGreatDoor
open Go.RowKit
theorem jplace_any (n : Int) (hn : 0 ≤ n ∧ n ≤ 100) (w : World) : Calls Tryz.prog 35 #[.int .i64 n] w fun e w' => e = .returned (.int .i64 (24 + 5 * n)) ∧ w' = w := by
  have h1 : wrap64 (n * 5) = n * 5 := by unfold wrap64; omega
  have h4 : wrap64 (24 + n * 5) = 24 + 5 * n := by unfold wrap64; omega
  clear hn
  go_enter Tryz.func35, Tryz.ntmps35
  go_wp2
  go_ret
  exact ⟨by simp [h1, h4], rfl⟩
/-- Cells of a journal that nobody made. -/
def noJour : Array Value := #[.pointer none] ++ (List.replicate 16 [Value.int .i64 0, .int .i64 0, .int .i64 0, .bool false]).flatten.toArray
def NoJour (J : Option Addr) (w : World) : Prop := J = none ∨ ∃ g, J = some ⟨g, 0, none⟩ ∧ Blk w g 91 noJour
theorem NoJour.near {J : Option Addr} {w w' : World} (h : NoJour J w) (k : Near [] w w') : NoJour J w' := by
  rcases h with rfl | ⟨g, rfl, h⟩
  · exact .inl rfl
  · exact .inr ⟨g, rfl, h.near k (fun x => by cases x)⟩
theorem NoJour.below {J : Option Addr} {w w' : World} (h : NoJour J w) (k : Below w.heap.size w w') : NoJour J w' := h.near (Near.below k)
section
variable (J : Option Addr) (w : World) (h : NoJour J w)
include h
end
section
variable (D : Option Addr) (w : World) (h : NoDisk D w)
include h
end
end Go.Proofs.YtfoegmjpfkmggaaGreatDoor

/- What the kit asks of lists that shall share no memory: each is written over, and the others stay. Conditions: they lie whole in blocks of their own, or are nil. -/
namespace Go
open Go.RowKit
/-- A list that lies whole in a block, or none: its address, its length, all its bytes up to its capacity. -/
structure Ent where
  A : Option Addr
  n : Nat
  l : List UInt8
def Ent.val (e : Ent) : Value := .slice e.A e.n e.l.length
def Ent.blk (e : Ent) : Option Nat := e.A.map (·.block)
def Ent.Is (w : World) (e : Ent) : Prop :=
  e.n ≤ e.l.length ∧ e.l.length ≤ 140737488351232 ∧ ((e.A = none ∧ e.l = []) ∨ ∃ g t, e.A = some ⟨g, 0, none⟩ ∧ Blk w g t (e.l.map u8v).toArray)
theorem Ent.Is.bytes {w : World} {e : Ent} (h : e.Is w) : Bytes w e.A e.l := by
  obtain ⟨_, _, ⟨h1, h2⟩ | ⟨g, t, h1, h2⟩⟩ := h
  · rw [h1, h2]; exact Reads.nil _ _
  · rw [h1]; exact h2.bytes
theorem Ent.Is.kept {w w' : World} {row : Option Nat} {e : Ent} (h : e.Is w) (hg : w.grownBy w' row) (hne : ∀ g, e.blk = some g → some g ≠ row) : e.Is w' := by
  obtain ⟨h1, h2, h3 | ⟨g, t, h3, h4⟩⟩ := h
  · exact ⟨h1, h2, .inl h3⟩
  · exact ⟨h1, h2, .inr ⟨g, t, h3, (hg.block g h4.lt (hne g (by unfold Ent.blk; rw [h3]; rfl))).trans h4⟩⟩
theorem Ent.Is.below {w w' : World} {e : Ent} {B : Nat} (h : e.Is w) (hb : Below B w w') (hlt : ∀ g, e.blk = some g → g < B) : e.Is w' := by
  obtain ⟨h1, h2, h3 | ⟨g, t, h3, h4⟩⟩ := h
  · exact ⟨h1, h2, .inl h3⟩
  · exact ⟨h1, h2, .inr ⟨g, t, h3, h4.below hb (hlt g (by unfold Ent.blk; rw [h3]; rfl))⟩⟩
theorem Ent.Is.lt {w : World} {e : Ent} (h : e.Is w) : ∀ g, e.blk = some g → g < w.heap.size := by
  intro g hg
  obtain ⟨_, _, ⟨h3, _⟩ | ⟨g', t, h3, h4⟩⟩ := h
  · unfold Ent.blk at hg; rw [h3] at hg; cases hg
  · unfold Ent.blk at hg; rw [h3] at hg; simp at hg; subst hg; exact h4.lt
theorem Upd.grownBy {w w' : World} {g : Nat} (u : Upd g w w') : w.grownBy w' (some g) := ⟨u.os, u.tape, u.output, by rw [u.size]; exact Nat.le_refl _, fun k _ hk => u.block k (fun e => hk (by rw [e]))⟩
end Go
namespace Go.Proofs.YtfoegmjpfkmggaaGreatDoor
open Go.RowKit
end Go.Proofs.YtfoegmjpfkmggaaGreatDoor

/- The document's function that lays a number of so many bytes. Conditions: the number is below 2^64; at most eight bytes; at most 100000 were laid. -/
namespace Go
open Go.RowKit
theorem grown_alloc {w w' : World} {o : Obj} {row : Option Nat} (h : (w.alloc o).grownBy w' row) : w.grownBy w' row := by
  have h0 := World.grownBy_alloc w o row
  exact ⟨h.1.trans h0.1, h.2.trans h0.2, h.3.trans h0.3, Nat.le_trans h0.4 h.4, fun k hk hr => (h.5 k (Nat.lt_of_lt_of_le hk h0.4) hr).trans (h0.5 k hk hr)⟩
theorem grown_trans {w w1 w' : World} {row r : Option Nat} (h0 : w.grownBy w1 row) (h : w1.grownBy w' r) (hr : r = row ∨ ∃ k, r = some k ∧ w.heap.size ≤ k) : w.grownBy w' row :=
  ⟨h.1.trans h0.1, h.2.trans h0.2, h.3.trans h0.3, Nat.le_trans h0.4 h.4, fun k hk hne => (h.5 k (Nat.lt_of_lt_of_le hk h0.4) (by
    rcases hr with e | ⟨j, e, hj⟩
    · rw [e]; exact hne
    · rw [e]; intro e2; injection e2 with e2; omega)).trans (h0.5 k hk hne)⟩
theorem World.alloc_size (w : World) (o : Obj) : (w.alloc o).heap.size = w.heap.size + 1 := by simp
end Go
namespace Go.Proofs.YtfoegmjpfkmggaaGreatDoor
open Go.RowKit
/-- The number's first bytes, the lowest first. -/
def leb (n s : Nat) : List UInt8 := (le8 n).take s
theorem leb_8 (n : Nat) : leb n 8 = le8 n := List.take_of_length_le (by rw [le8_length]; omega)
theorem leb_4 (n : Nat) (h : n < 4294967296) : leb n 4 = le4 n := by
  unfold leb le8
  rw [Nat.mod_eq_of_lt h, List.take_append_of_le_length (by rw [le4_length]; omega), List.take_of_length_le (by rw [le4_length]; omega)]
theorem leb_length (n s : Nat) (h : s ≤ 8) : (leb n s).length = s := by unfold leb; rw [List.length_take, le8_length]; omega
theorem leb_snoc (n i : Nat) (h : i < 8) : (le8 n).take i ++ [b8 n i] = (le8 n).take (i + 1) := by
  rw [List.take_succ_eq_append_getElem (by rw [le8_length]; omega)]
  have : i = 0 ∨ i = 1 ∨ i = 2 ∨ i = 3 ∨ i = 4 ∨ i = 5 ∨ i = 6 ∨ i = 7 := by omega
  rcases this with rfl | rfl | rfl | rfl | rfl | rfl | rfl | rfl <;> simp [le8_b8]
def PutRel (w0 : World) (base s n : Nat) (l : List UInt8) (row : Option Nat) (v v7 : Value) (wr : World) : Prop :=
  ∃ (i : Nat) (sp : List UInt8), i ≤ s ∧ v7 = .int .i64 (i : Int) ∧ OwnB 5 wr base v (l ++ (le8 n).take i) sp ∧ w0.grownBy wr row ∧ (v.ownBlock = row ∨ ∃ k, v.ownBlock = some k ∧ w0.heap.size ≤ k)
theorem put_next {w0 wr : World} {base s : Nat} {l : List UInt8} {row r : Option Nat} (n i : Nat) (v1 : Value) (w1 : World) (sp1 : List UInt8) (hi : i < s ∧ i < 8) (ho : OwnB 5 w1 base v1 ((l ++ (le8 n).take i) ++ [b8 n i]) sp1)
    (hg : wr.grownBy w1 r) (hw : v1.ownBlock = r ∨ ∃ k, v1.ownBlock = some k ∧ (wr.alloc (.cells #[.int .u8 (iu8 (b8 n i))] 5)).heap.size ≤ k) (hgr : w0.grownBy wr row) (hwv : r = row ∨ ∃ k, r = some k ∧ w0.heap.size ≤ k) :
    PutRel w0 base s n l row v1 (.int .i64 (i + 1 : Nat)) w1 := by
  refine ⟨i + 1, sp1, hi.1, rfl, by rw [List.append_assoc, leb_snoc n i hi.2] at ho; exact ho, grown_trans hgr hg hwv, ?_⟩
  rcases hw with e | ⟨k, e, hk⟩
  · rw [e]; exact hwv
  · rw [World.alloc_size] at hk
    exact .inr ⟨k, e, by have := hgr.size; omega⟩
set_option maxHeartbeats 4000000 in
theorem rput4_any (base : Nat) (v : Value) (l sp : List UInt8) (n s : Nat) (hs : s ≤ 8) (hl : l.length ≤ 100000) (w : World) (hbase : base ≤ w.heap.size) (ho : OwnB 5 w base v l sp) :
    Calls Tryz.prog 124 #[v, .int .u64 (n : Int), .int .i64 (s : Int)] w fun e w' => ∃ v' sp', e = .returned v' ∧ OwnB 5 w' base v' (l ++ leb n s) sp' ∧ w.grownBy w' v.ownBlock ∧ (v'.ownBlock = v.ownBlock ∨ ∃ k, v'.ownBlock = some k ∧ w.heap.size ≤ k) := by
  go_enter Tryz.func124, Tryz.ntmps124
  obtain ⟨row, hrow⟩ : ∃ row, row = v.ownBlock := ⟨_, rfl⟩
  rw [← hrow]
  go_wp2_with fail
  go_loopw [0, 7] (fun v v7 wr => PutRel w base s n l row v v7 wr) (fun _ v _ => s - (intOf v).toNat)
  case atStart => exact ⟨0, sp, by omega, rfl, by simpa using ho, World.grownBy.refl _ _, .inl hrow.symm⟩
  case round =>
    clear ho hrow
    obtain ⟨i, sp, his, rfl, hown, hgr, hwv⟩ := hrel
    by_cases hlt : i < s
    · have hsz := hgr.size
      have hcase : i = 0 ∨ i = 1 ∨ i = 2 ∨ i = 3 ∨ i = 4 ∨ i = 5 ∨ i = 6 ∨ i = 7 := by omega
      rcases hcase with rfl | rfl | rfl | rfl | rfl | rfl | rfl | rfl
      · go_wp2_with (first
          | (show wpList _ _ _ ((⟨some 20, _, _, _, _, _⟩ : Oper) :: _) _ _; rw [b8_0];
              refine wpList_append_bytes (o := ⟨some 20, _, _, _, _, _⟩) (by rfl) _ _ _ (by rfl) base _ Tryz.underlying39 u8info _ (l ++ (le8 n).take 0) sp (by rfl) (hown.alloc _) (some ⟨wr.heap.size, 0, none⟩) 1 [b8 n 0] (by rfl) (bytes_lit wr _ [b8 n 0]) (by rw [List.length_append, List.length_take, le8_length]; simp; omega) (by rw [World.alloc_size]; omega) ?_; intro v1 w1 sp1 ho1 hg1 hw1 _)
          | fail)
        go_roundw
        case rel => exact put_next n 0 v1 w1 sp1 (by omega) ho1 (grown_alloc hg1) (hw1.imp id fun h => ⟨_, h, Nat.le_refl _⟩) hgr hwv
        case measure => simp [intOf]; omega
      · go_wp2_with (first
          | (show wpList _ _ _ ((⟨some 20, _, _, _, _, _⟩ : Oper) :: _) _ _; rw [b8_1];
              refine wpList_append_bytes (o := ⟨some 20, _, _, _, _, _⟩) (by rfl) _ _ _ (by rfl) base _ Tryz.underlying39 u8info _ (l ++ (le8 n).take 1) sp (by rfl) (hown.alloc _) (some ⟨wr.heap.size, 0, none⟩) 1 [b8 n 1] (by rfl) (bytes_lit wr _ [b8 n 1]) (by rw [List.length_append, List.length_take, le8_length]; simp; omega) (by rw [World.alloc_size]; omega) ?_; intro v1 w1 sp1 ho1 hg1 hw1 _)
          | fail)
        go_roundw
        case rel => exact put_next n 1 v1 w1 sp1 (by omega) ho1 (grown_alloc hg1) (hw1.imp id fun h => ⟨_, h, Nat.le_refl _⟩) hgr hwv
        case measure => simp [intOf]; omega
      · go_wp2_with (first
          | (show wpList _ _ _ ((⟨some 20, _, _, _, _, _⟩ : Oper) :: _) _ _; rw [b8_2];
              refine wpList_append_bytes (o := ⟨some 20, _, _, _, _, _⟩) (by rfl) _ _ _ (by rfl) base _ Tryz.underlying39 u8info _ (l ++ (le8 n).take 2) sp (by rfl) (hown.alloc _) (some ⟨wr.heap.size, 0, none⟩) 1 [b8 n 2] (by rfl) (bytes_lit wr _ [b8 n 2]) (by rw [List.length_append, List.length_take, le8_length]; simp; omega) (by rw [World.alloc_size]; omega) ?_; intro v1 w1 sp1 ho1 hg1 hw1 _)
          | fail)
        go_roundw
        case rel => exact put_next n 2 v1 w1 sp1 (by omega) ho1 (grown_alloc hg1) (hw1.imp id fun h => ⟨_, h, Nat.le_refl _⟩) hgr hwv
        case measure => simp [intOf]; omega
      · go_wp2_with (first
          | (show wpList _ _ _ ((⟨some 20, _, _, _, _, _⟩ : Oper) :: _) _ _; rw [b8_3];
              refine wpList_append_bytes (o := ⟨some 20, _, _, _, _, _⟩) (by rfl) _ _ _ (by rfl) base _ Tryz.underlying39 u8info _ (l ++ (le8 n).take 3) sp (by rfl) (hown.alloc _) (some ⟨wr.heap.size, 0, none⟩) 1 [b8 n 3] (by rfl) (bytes_lit wr _ [b8 n 3]) (by rw [List.length_append, List.length_take, le8_length]; simp; omega) (by rw [World.alloc_size]; omega) ?_; intro v1 w1 sp1 ho1 hg1 hw1 _)
          | fail)
        go_roundw
        case rel => exact put_next n 3 v1 w1 sp1 (by omega) ho1 (grown_alloc hg1) (hw1.imp id fun h => ⟨_, h, Nat.le_refl _⟩) hgr hwv
        case measure => simp [intOf]; omega
      · go_wp2_with (first
          | (show wpList _ _ _ ((⟨some 20, _, _, _, _, _⟩ : Oper) :: _) _ _; rw [b8_4];
              refine wpList_append_bytes (o := ⟨some 20, _, _, _, _, _⟩) (by rfl) _ _ _ (by rfl) base _ Tryz.underlying39 u8info _ (l ++ (le8 n).take 4) sp (by rfl) (hown.alloc _) (some ⟨wr.heap.size, 0, none⟩) 1 [b8 n 4] (by rfl) (bytes_lit wr _ [b8 n 4]) (by rw [List.length_append, List.length_take, le8_length]; simp; omega) (by rw [World.alloc_size]; omega) ?_; intro v1 w1 sp1 ho1 hg1 hw1 _)
          | fail)
        go_roundw
        case rel => exact put_next n 4 v1 w1 sp1 (by omega) ho1 (grown_alloc hg1) (hw1.imp id fun h => ⟨_, h, Nat.le_refl _⟩) hgr hwv
        case measure => simp [intOf]; omega
      · go_wp2_with (first
          | (show wpList _ _ _ ((⟨some 20, _, _, _, _, _⟩ : Oper) :: _) _ _; rw [b8_5];
              refine wpList_append_bytes (o := ⟨some 20, _, _, _, _, _⟩) (by rfl) _ _ _ (by rfl) base _ Tryz.underlying39 u8info _ (l ++ (le8 n).take 5) sp (by rfl) (hown.alloc _) (some ⟨wr.heap.size, 0, none⟩) 1 [b8 n 5] (by rfl) (bytes_lit wr _ [b8 n 5]) (by rw [List.length_append, List.length_take, le8_length]; simp; omega) (by rw [World.alloc_size]; omega) ?_; intro v1 w1 sp1 ho1 hg1 hw1 _)
          | fail)
        go_roundw
        case rel => exact put_next n 5 v1 w1 sp1 (by omega) ho1 (grown_alloc hg1) (hw1.imp id fun h => ⟨_, h, Nat.le_refl _⟩) hgr hwv
        case measure => simp [intOf]; omega
      · go_wp2_with (first
          | (show wpList _ _ _ ((⟨some 20, _, _, _, _, _⟩ : Oper) :: _) _ _; rw [b8_6];
              refine wpList_append_bytes (o := ⟨some 20, _, _, _, _, _⟩) (by rfl) _ _ _ (by rfl) base _ Tryz.underlying39 u8info _ (l ++ (le8 n).take 6) sp (by rfl) (hown.alloc _) (some ⟨wr.heap.size, 0, none⟩) 1 [b8 n 6] (by rfl) (bytes_lit wr _ [b8 n 6]) (by rw [List.length_append, List.length_take, le8_length]; simp; omega) (by rw [World.alloc_size]; omega) ?_; intro v1 w1 sp1 ho1 hg1 hw1 _)
          | fail)
        go_roundw
        case rel => exact put_next n 6 v1 w1 sp1 (by omega) ho1 (grown_alloc hg1) (hw1.imp id fun h => ⟨_, h, Nat.le_refl _⟩) hgr hwv
        case measure => simp [intOf]; omega
      · go_wp2_with (first
          | (show wpList _ _ _ ((⟨some 20, _, _, _, _, _⟩ : Oper) :: _) _ _; rw [b8_7];
              refine wpList_append_bytes (o := ⟨some 20, _, _, _, _, _⟩) (by rfl) _ _ _ (by rfl) base _ Tryz.underlying39 u8info _ (l ++ (le8 n).take 7) sp (by rfl) (hown.alloc _) (some ⟨wr.heap.size, 0, none⟩) 1 [b8 n 7] (by rfl) (bytes_lit wr _ [b8 n 7]) (by rw [List.length_append, List.length_take, le8_length]; simp; omega) (by rw [World.alloc_size]; omega) ?_; intro v1 w1 sp1 ho1 hg1 hw1 _)
          | fail)
        go_roundw
        case rel => exact put_next n 7 v1 w1 sp1 (by omega) ho1 (grown_alloc hg1) (hw1.imp id fun h => ⟨_, h, Nat.le_refl _⟩) hgr hwv
        case measure => simp [intOf]; omega
    · obtain rfl : i = s := by omega
      have HX := Lib.hid (And.intro hown (And.intro hgr hwv))
      clear hown hgr hwv
      go_wp2
      go_ret
      exact ⟨_, sp, rfl, HX.out⟩
end Go.Proofs.YtfoegmjpfkmggaaGreatDoor

/- append(s, make([]byte, n)...) as the program's text has it: noughts behind an own list. Plain facts over any program. No condition. -/
namespace Go
open Go.RowKit
section
variable {P : Program} (w : World)
theorem run_append_zeros (base : Nat) (t tx ty e : TypeId) (k : IntKind) (i : TypeInfo) (ht : P.underlying t = some (.slice e)) (htx : P.underlying tx = some (.int k)) (hi : P.info? e = some i) (hz : i.zero = some (.int .u8 0))
    (hsize : i.size = 1) (hby : i.bytes = 1) (v : Value) (l sp : List UInt8) (hown : OwnB e w base v l sp) (m : Nat) (h63 : l.length + m ≤ 140737488355328) (hbase : base ≤ w.heap.size) :
    ∃ v' w' sp', (Builtin.append_ #[t, tx] ty #[v, .int .i64 (m : Int)]).run P w = .ok v' w' ∧ OwnB e w' base v' (l ++ List.replicate m 0) sp' ∧ w.grownBy w' v.ownBlock ∧
      (v'.ownBlock = v.ownBlock ∨ v'.ownBlock = some w.heap.size) := by
  have hwr : IntKind.i64.wrap (m : Int) = m := by rw [IntKind.wrap_i64]; omega
  have hzc : ∀ j, Builtin.zeroCells (Value.int .u8 0).cells j = ((List.replicate j (0 : UInt8)).map u8v).toArray := fun j => by
    unfold Builtin.zeroCells
    apply Array.ext_getElem?
    intro a
    rw [List.map_replicate]
    by_cases ha : a < j
    · simp [Value.cells, ha, Nat.mod_one]; rfl
    · simp [Value.cells, ha]
  have hA : ∀ w' : World, (asInt (.int .i64 (m : Int))).run P w' = .ok (m : Int) w' := fun w' => by simp [asInt, asIntOf]
  have hA0 : ∀ w' : World, (asInt (.int .i64 0)).run P w' = .ok 0 w' := fun w' => by simp [asInt, asIntOf]
  have hw0 : IntKind.i64.wrap 0 = 0 := by rw [IntKind.wrap_i64]; omega
  have hi63 : IntKind.i64.wrap (m : Int) = m := hwr
  have n0 : ¬ ((m : Int) < 0) := by omega
  have n1 : ¬ (281474976710656 < (m : Int)) := by omega
  have grown : ∀ (old : Nat) (row : Option Nat),
      OwnB e (w.drew.alloc (.cells ((l.map u8v).toArray ++ ((List.replicate m (0 : UInt8)).map u8v).toArray ++ ((List.replicate (grownCap w (l.length + m) old e - (l.length + m)) (0 : UInt8)).map u8v).toArray) e)) base
        (.slice (some ⟨w.heap.size, 0, none⟩) (l.length + m) (grownCap w (l.length + m) old e)) (l ++ List.replicate m 0) (List.replicate (grownCap w (l.length + m) old e - (l.length + m)) 0) ∧
      w.grownBy (w.drew.alloc (.cells ((l.map u8v).toArray ++ ((List.replicate m (0 : UInt8)).map u8v).toArray ++ ((List.replicate (grownCap w (l.length + m) old e - (l.length + m)) (0 : UInt8)).map u8v).toArray) e)) row := by
    intro old row
    refine ⟨.inr ⟨w.heap.size, _, by simp, hbase, ?_, by simpa using grownCap_ge w (l.length + m) old e, grownCap_le_maxLen w (l.length + m) old e (by unfold maxLen; omega), by simp, by simp⟩, ⟨rfl, rfl, rfl, by simp, fun k (hk : k < w.drew.heap.size) _ => Below.heap_alloc w.drew _ k hk⟩⟩
    refine (Blk.new w.drew e _).sub ?_
    simp
  rcases hown with ⟨rfl, hl0, hx0, hs0⟩ | ⟨g, cap, rfl, hbg, hg, hnc, hcm, hxl, hspl⟩
  · obtain rfl : l = [] := List.eq_nil_of_length_eq_zero hl0
    obtain rfl : sp = [] := by simpa using hs0
    rcases Nat.eq_zero_or_pos m with hm | hm
    · subst hm
      refine ⟨.slice none 0 0, w, [], ?_, OwnsC.nil e 1 w base, World.grownBy.refl w _, .inl rfl⟩
      simp [Builtin.append_, run_underlying ht, run_underlying htx, sizeOf, typeInfo, hi, hA0, hby, hw0]
    · have hgr := grown 0 (Value.ownBlock (.slice none 0 0))
      simp only [List.length_nil, Nat.zero_add] at hgr ⊢
      refine ⟨_, _, _, ?_, hgr.1, hgr.2, .inr rfl⟩
      have h5 : ¬ (m = 0) := by omega
      have h63' : ¬ (9223372036854775807 < (m : Int)) := by omega
      have h48' : ¬ (281474976710656 < Builtin.nextslicecap m 0) := by rw [nextslicecap_zero hm]; omega
      simp [Builtin.append_, run_underlying ht, run_underlying htx, sizeOf, typeInfo, zeroValue, hi, hz, hA, hsize, hby, hwr, n0, n1, h5, h63', h48', Question.forced, run_firstCells_none, newRow, grownCap, hzc]
  · by_cases hroom : l.length + m ≤ cap
    · rcases Nat.eq_zero_or_pos m with hm | hm
      · subst hm
        refine ⟨_, w, sp, ?_, by rw [List.replicate_zero, List.append_nil]; exact .inr ⟨g, cap, rfl, hbg, hg, hnc, hcm, hxl, hspl⟩, World.grownBy.refl w _, .inl rfl⟩
        simp [Builtin.append_, run_underlying ht, run_underlying htx, sizeOf, typeInfo, hi, hA0, hby, hw0, hnc, storeCells]
      · have hspl' : sp.length = cap - l.length := by simpa using hspl
        have hst := run_storeCells_at P g (l.length * 1) e ((List.replicate m (0 : UInt8)).map u8v) 0 ((l.map u8v ++ sp.map u8v).toArray) w hg (by simp; omega) (u8v_one _)
        simp only [Nat.add_zero, Nat.mul_one] at hst
        have h5 : ¬ (m = 0) := by omega
        refine ⟨.slice (some ⟨g, 0, none⟩) (l.length + m) cap, w.setRow g (((l.map u8v ++ sp.map u8v).toArray.toList.take l.length ++ (List.replicate m (0 : UInt8)).map u8v ++ (l.map u8v ++ sp.map u8v).toArray.toList.drop (l.length + ((List.replicate m (0 : UInt8)).map u8v).length)).toArray), sp.drop m, ?_, .inr ⟨g, cap, by simp, hbg, ?_, by simpa using hroom, hcm, by simp, ?_⟩, ⟨rfl, rfl, rfl, by simp, fun k _ hk => setRow_other w g k _ (fun e => hk (by simp [Value.ownBlock, e]))⟩, .inl rfl⟩
        rotate_left
        · refine (Blk.setRow (cs := (l.map u8v ++ sp.map u8v).toArray) hg _).sub ?_
          simp [List.drop_append]
        · simp; omega
        · simp [Builtin.append_, run_underlying ht, run_underlying htx, sizeOf, typeInfo, zeroValue, hi, hz, hA, hsize, hby, hwr, n0, n1, h5, hroom, hzc, Addr.add_lit]
          simp at hst
          rw [hst]
          simp
    · have hgr := grown cap (Value.ownBlock (.slice (some ⟨g, 0, none⟩) l.length cap))
      refine ⟨_, _, _, ?_, hgr.1, hgr.2, .inr rfl⟩
      have h5 : ¬ (m = 0) := by omega
      have h63' : ¬ (9223372036854775807 < ((l.length : Int) + (m : Int))) := by omega
      have h48' : ¬ (281474976710656 < Builtin.nextslicecap (l.length + m) cap) := by
        have := growslice_fits (need := l.length + m) (old := cap) (bytes := 1) (by omega) (by omega)
        omega
      have hfo := run_firstCells_some (P := P) w.drew 1 l.length ⟨g, 0, none⟩ l.length cap (l.map u8v) (by simp) (fun j u hu => by
        rw [Addr.add_lit, Nat.zero_add]
        have : w.cell? ⟨g, j, none⟩ = some u := by
          rw [Blk.cell hg]
          simp only [List.getElem?_toArray]
          rw [List.getElem?_append_left (List.getElem?_eq_some_iff.1 hu).1]; exact hu
        exact this)
      simp [Builtin.append_, run_underlying ht, run_underlying htx, sizeOf, typeInfo, zeroValue, hi, hz, hA, hsize, hby, hwr, n0, n1, h5, hroom, h63', h48', Question.forced, hfo, newRow, grownCap, hzc]
theorem wpList_append_zeros {w : World} {ops : Array Oper} {rest : List Oper} {o : Oper} {a : Act} {Q : Exit → Act → World → Prop} (hgd : o.guard = none) (s x : Operand) (t tx : TypeId)
    (ho : o.op = .call { callee := .builtin .append, args := #[s, x], argTypes := #[t, tx] })
    (base : Nat) (e : TypeId) (k : IntKind) (ht : P.underlying t = some (.slice e)) (htx : P.underlying tx = some (.int k)) (hi : (P.info? e).map (fun i => (i.zero, i.size, i.bytes)) = some (some (.int .u8 0), 1, 1))
    (v : Value) (l sp : List UInt8) (hs : a.eval s = v) (hown : OwnB e w base v l sp) (m : Nat) (hx : a.eval x = .int .i64 (m : Int)) (hlen : l.length + m ≤ 140737488355328) (hbase : base ≤ w.heap.size)
    (h : ∀ v' w' sp', OwnB e w' base v' (l ++ List.replicate m 0) sp' → w.grownBy w' v.ownBlock → (v'.ownBlock = v.ownBlock ∨ v'.ownBlock = some w.heap.size) → wpList P ops Q rest (a.put o.dst v') w') : wpList P ops Q (o :: rest) a w := by
  obtain ⟨i, hi0, hz, hsize, hby⟩ := info_parts hi
  obtain ⟨v', w', sp', hrun, h2, h3, h4⟩ := run_append_zeros (P := P) w base t tx o.type e k i ht htx hi0 hz hsize hby v l sp hown m hlen hbase
  refine wpList_plain hgd fun _ hK => ?_
  unfold Oper.wp execOp
  simp only [ho, resolve, invoke, builtin, Sem.run_bind, Sem.run_pure, Result.andThen_ok, List.map_toArray, List.map_cons, List.map_nil, hs, hx, hrun]
  exact hK _ _ (h v' w' sp' h2 h3 h4)
end
end Go

/- A header's bytes behind its seal, the document's. Conditions: the numbers of four bytes are from 0 on and below 2^32, the others below 2^64. -/
namespace Go.Proofs.YtfoegmjpfkmggaaGreatDoor
open Go.RowKit
def nine : List Nat := [0, 1, 2, 3, 4, 5, 6, 7, 8]
theorem nine_snoc (i : Nat) (h : i < 9) : nine.take (i + 1) = nine.take i ++ [i] := by
  have : i = 0 ∨ i = 1 ∨ i = 2 ∨ i = 3 ∨ i = 4 ∨ i = 5 ∨ i = 6 ∨ i = 7 ∨ i = 8 := by omega
  rcases this with rfl | rfl | rfl | rfl | rfl | rfl | rfl | rfl | rfl <;> rfl
def nines (f : HdF) : Array Value := #[.int .i64 (f 0), .int .i64 (f 1), .int .i64 (f 2), .int .i64 (f 3), .int .i64 (f 4), .int .i64 (f 5), .int .i64 (f 6), .int .i64 (f 7), .int .i64 (f 8)]
theorem nines_at (f : HdF) (i : Nat) (h : i < 9) : (nines f)[i]? = some (.int .i64 (f i)) := by
  have : i = 0 ∨ i = 1 ∨ i = 2 ∨ i = 3 ∨ i = 4 ∨ i = 5 ∨ i = 6 ∨ i = 7 ∨ i = 8 := by omega
  rcases this with rfl | rfl | rfl | rfl | rfl | rfl | rfl | rfl | rfl <;> rfl
def NineRel (w2 : World) (f : HdF) (s : List UInt8) (gl : Nat) (v5 v7 : Value) (wr : World) : Prop :=
  ∃ (i : Nat) (sp : List UInt8), i ≤ 9 ∧ v7 = .int .i64 (i : Int) ∧ OwnB 5 wr w2.heap.size v5 (s ++ four_ f (nine.take i)) sp ∧ Below w2.heap.size w2 wr ∧ Blk wr gl 3 (nines f) ∧ v5.ownBlock ≠ some gl
set_option maxRecDepth 100000 in
set_option maxHeartbeats 4000000 in
theorem rhbehind_any (f : HdF) (s : List UInt8) (hs : s.length = 16) (hf : Hd.nat f) (hin : Hd.in_ f) (w : World) :
    Calls Tryz.prog 91 #[.agg (hdc f), .agg (s.map u8v).toArray] w fun e w' => ∃ v sp, e = .returned v ∧ OwnB 5 w' w.heap.size v (Hd.rest f s) sp ∧ Below w.heap.size w w' := by
  have hb0 := (Blk.new w 38 (hdc f)).alloc (.cells (s.map u8v).toArray 150)
  have hb1 := Blk.new' (w.alloc (.cells (hdc f) 38)) 150 (s.map u8v).toArray (n := w.heap.size + 1) (by simp)
  have hB := Lib.hid (((Below.refl w.heap.size w).alloc (Nat.le_refl _) (.cells (hdc f) 38)).alloc (by simp) (.cells (s.map u8v).toArray 150))
  have HF := Lib.hid hf
  have HIN := Lib.hid hin
  have HS := Lib.hid hs
  clear hf hin hs
  go_enter Tryz.func91, Tryz.ntmps91
  go_wp2_with (first
    | (show wpList _ _ _ ((⟨some 11, _, _, _, _, _⟩ : Oper) :: _) _ _; go_must (generalize hw2 : (w.alloc (.cells (hdc f) 38)).alloc (.cells (s.map u8v).toArray 150) = w2 at hb0 hb1 hB ⊢); go_must (have hsz2 : w2.heap.size = w.heap.size + 1 + 1 := by simp [← hw2]); go_must (clear hw2); go_must (rw [← hsz2]); go_must (generalize hs0 : w.heap.size = s0 at hb0 hb1 hB hsz2 ⊢); go_must (have ho3 := OwnB.lit0 (e := 5) w2 (Nat.le_refl _)); go_must (have hS3 := (hb1.alloc (.cells #[] 5)).bytes); go_must (have hB3 : Below w2.heap.size w2 (w2.alloc (.cells #[] 5)) := (Below.refl _ _).alloc (Nat.le_refl _) _); go_must (refine wpList_append_bytes (o := ⟨some 11, _, _, _, _, _⟩) (by rfl) _ _ _ (by rfl) w2.heap.size _ Tryz.underlying39 u8info (.slice (some ⟨w2.heap.size, 0, none⟩) 0 0) [] [] (by rfl) ho3 (some ⟨s0 + 1, 0, none⟩) 16 s (by rw [HS.out]; rfl) hS3 (by rw [HS.out, List.length_nil]; omega) hB3.size ?_); go_must (intro v4 w4 sp4 ho4 hg4 _ _); go_must (have hB4 := hB3.grown hg4 hB3.size (fun k hk => (OwnsC.lt ho3 k hk).1)); go_must (rw [List.nil_append] at ho4); go_must (clear ho3 hS3 hB3 hg4); go_must (have hbx := hb0.below hB4 hb0.lt); go_must (have c0 := hbx.at_ 0 (hdc_at f 0 (by omega) (by omega) (by omega) (by omega))); go_must (have c1 := hbx.at_ 1 (hdc_at f 1 (by omega) (by omega) (by omega) (by omega))); go_must (have c2 := hbx.at_ 2 (hdc_at f 2 (by omega) (by omega) (by omega) (by omega))); go_must (have c3 := hbx.at_ 3 (hdc_at f 3 (by omega) (by omega) (by omega) (by omega))); go_must (have c4 := hbx.at_ 4 (hdc_at f 4 (by omega) (by omega) (by omega) (by omega))); go_must (have c5 := hbx.at_ 5 (hdc_at f 5 (by omega) (by omega) (by omega) (by omega))); go_must (have c6 := hbx.at_ 6 (hdc_at f 6 (by omega) (by omega) (by omega) (by omega))); go_must (have c7 := hbx.at_ 7 (hdc_at f 7 (by omega) (by omega) (by omega) (by omega))); go_must (have c8 := hbx.at_ 8 (hdc_at f 8 (by omega) (by omega) (by omega) (by omega))); go_must (have HL := Lib.hid (And.intro ho4 (And.intro hB4 hsz2))); go_must (clear ho4 hB4 hbx hsz2))
    | fail)
  clear c0 c1 c2 c3 c4 c5 c6 c7 c8
  have hgl : w4.heap.size = w4.heap.size := rfl
  have HST : Hid (NineRel w2 f s w4.heap.size v4 (.int .i64 0) (w4.alloc (.cells (nines f) 3))) := Lib.hid (by
    obtain ⟨ho4, hB4, hsz2⟩ := HL.out
    refine ⟨0, sp4, by omega, rfl, ?_, hB4.alloc hB4.size _, Blk.new _ _ _, fun e => by have := (OwnsC.lt ho4 _ e).2; omega⟩
    rw [show s ++ four_ f (nine.take 0) = s by simp [four_]]
    exact ho4.alloc _)
  have hge := HL.out.2.1.size
  have HSZ := Lib.hid HL.out.2.2
  clear HL hgl
  rw [show (#[.int .i64 (f 0), .int .i64 (f 1), .int .i64 (f 2), .int .i64 (f 3), .int .i64 (f 4), .int .i64 (f 5), .int .i64 (f 6), .int .i64 (f 7), .int .i64 (f 8)] : Array Value) = nines f from rfl]
  generalize w4.alloc (.cells (nines f) 3) = w5 at HST ⊢
  generalize w4.heap.size = gl at HST hge ⊢
  go_loopw [5, 7] (fun v5 v7 wr => NineRel w2 f s gl v5 v7 wr) (fun _ v _ => 9 - (intOf v).toNat)
  case atStart => exact HST.out
  case round =>
    clear HST
    obtain ⟨i, sp, hi9, rfl, hown, hBr, hgb, hne⟩ := hrel
    have hsz := hBr.size
    by_cases hlt : i < 9
    · obtain ⟨N, hN⟩ : ∃ N : Nat, f i = (N : Int) := ⟨(f i).toNat, by have := (HF.out i (by simp [thirteen]; omega)).1; omega⟩
      have hN2 : N < 4294967296 := by have := (HF.out i (by simp [thirteen]; omega)).2; omega
      have d0 : wr.cell? ⟨gl, i, none⟩ = some (.int .i64 (N : Int)) := by rw [hgb.at_ i (nines_at f i hlt), hN]
      have HN := Lib.hid hN
      have hl : (s ++ four_ f (nine.take i)).length ≤ 100000 := by rw [List.length_append, four_length, List.length_take, HS.out]; have := Nat.min_le_left i nine.length; omega
      have HU : Hid ((s ++ four_ f (nine.take i)) ++ leb N 4 = s ++ four_ f (nine.take (i + 1))) := Lib.hid (by rw [nine_snoc i hlt, four_snoc, HN.out, leb_4 N hN2, Int.toNat_natCast, List.append_assoc])
      clear hN
      go_wp2_with fail
      refine (rput4_any w2.heap.size _ _ sp N 4 (by omega) hl wr hsz hown).mono ?_
      rintro e w6 ⟨v6, sp6, rfl, ho6, hg6, hw6⟩
      have hB6 := hBr.grown hg6 hsz (fun k hk => (OwnsC.lt hown k hk).1)
      have hgb6 : Blk w6 gl 3 (nines f) := (hg6.block _ hgb.lt (fun e => hne e.symm)).trans hgb
      have hne6 : v6.ownBlock ≠ some gl := by
        rcases hw6 with e | ⟨k, e, hk⟩
        · rw [e]; exact hne
        · rw [e]; intro e2; injection e2 with e2; have := hgb.lt; omega
      rw [HU.out] at ho6
      clear d0 hown hBr hgb hne hg6 hw6 hl
      go_wp2
      go_roundw
      case rel => exact ⟨i + 1, sp6, by omega, by go_num, ho6, hB6, hgb6, hne6⟩
      case measure => simp [intOf]; omega
    · obtain rfl : i = 9 := by omega
      clear hgb hne
      rw [show nine.take 9 = [0, 1, 2, 3, 4, 5, 6, 7, 8] from rfl] at hown
      obtain ⟨hi, hhi⟩ : ∃ n : Nat, f 9 = (n : Int) := ⟨(f 9).toNat, by have := HIN.out.1; omega⟩
      obtain ⟨lo, hlo⟩ : ∃ n : Nat, f 10 = (n : Int) := ⟨(f 10).toNat, by have := HIN.out.2.2.1; omega⟩
      obtain ⟨T, hT⟩ : ∃ n : Nat, f 13 = (n : Int) := ⟨(f 13).toNat, by have := HIN.out.2.2.2.2.1; omega⟩
      have hT2 : T < 18446744073709551616 := by have := HIN.out.2.2.2.2.2; omega
      have hbx := hb0.below hBr hb0.lt
      have d9 : wr.cell? ⟨s0, 9, none⟩ = some (.int .u64 (hi : Nat)) := (hbx.at_ 9 (hdc_u f 9 (by omega))).trans (by rw [hhi])
      have d10 : wr.cell? ⟨s0, 9 + 1, none⟩ = some (.int .u64 (lo : Nat)) := (hbx.at_ 10 (hdc_u f 10 (by omega))).trans (by rw [hlo])
      have HN := Lib.hid (And.intro hhi (And.intro hlo hT))
      clear hhi hlo hT hbx
      go_wp2_with (first
        | ((with_reducible show wpList _ _ _ ((⟨some 45, _, _, _, _, _⟩ : Oper) :: _) _ _); refine wpList_load_mid (o := ⟨some 45, _, _, _, _, _⟩) (range2 (b := s0) (off := 9) (u := .int .u64 (hi : Nat)) (v := .int .u64 (lo : Nat)) (d9) (d10)) (by rfl) _ _ (by rfl) (by rfl) _ Tryz.underlying36 (by rfl) sizeU (by rfl) ?_)
        | fail)
      refine (rid_any hi lo wr).mono ?_
      rintro e w6 ⟨rfl, hbx⟩
      (replace hown := keep hbx hown)
      have hB6 := hBr.trans (hbx.mono hsz)
      clear hbx d9 d10 hBr hsz
      rw [idv_all]
      have hid : (le8 lo ++ le8 hi).length = 16 := rfl
      obtain ⟨S, hS⟩ : ∃ S, S = le8 lo ++ le8 hi := ⟨_, rfl⟩
      rw [← hS] at hid ⊢
      have HS2 := Lib.hid hS
      have HID := Lib.hid hid
      clear hS hid
      have a16 := alloc16
      obtain ⟨C0, hC0⟩ : ∃ C0, C0 = s ++ four_ f [0, 1, 2, 3, 4, 5, 6, 7, 8] := ⟨_, rfl⟩
      have hl0 : C0.length = 52 := by rw [hC0, List.length_append, four_length, HS.out]; rfl
      rw [← hC0] at hown
      have HC0 := Lib.hid hC0
      have HL0 := Lib.hid hl0
      clear hC0 hl0
      have hz6 := hB6.size
      have hid := HID.out
      go_wp2_with (first
        | ((with_reducible show wpList _ _ _ ((⟨none, _, _, _, _, _⟩ : Oper) :: _) _ _); refine wpList_store_blk (o := ⟨none, _, _, _, _, _⟩) (Blk.new w6 150 zero16) (by rfl) _ _ _ (by rfl) (by rfl) (S.map u8v).toArray (by rfl) size16 (arr_size _ _) (by simp [hid]) (u8_all _) ?_; intro w7 h7 hux; have hbx := ((Below.refl _ _).alloc (Nat.le_refl _) (.cells zero16 150)).upd hux (Nat.le_refl w6.heap.size); replace hown := keep hbx hown; replace hB6 := hB6.trans (hbx.mono hB6.size); clear hux hbx)
        | (show wpList _ _ _ ((⟨some 49, _, _, _, _, _⟩ : Oper) :: _) _ _; refine wpList_append_bytes (o := ⟨some 49, _, _, _, _, _⟩) (by rfl) _ _ _ (by rfl) w2.heap.size _ Tryz.underlying39 u8info _ C0 sp (by rfl) hown (some ⟨w6.heap.size, 0, none⟩) 16 S (by rw [hid]; rfl) h7.bytes (by rw [hid, HL0.out]; omega) hB6.size ?_; intro v8 w8 sp8 ho8 hg8 _ _; have hB8 := hB6.grown hg8 hB6.size (fun k hk => (OwnsC.lt hown k hk).1); clear hg8 hown hB6 h7 a16; obtain ⟨C8, hC8⟩ : ∃ C8, C8 = C0 ++ S := ⟨_, rfl⟩; have hl8 : C8.length = 68 := (by rw [hC8, List.length_append, hid, HL0.out]); rw [← hC8] at ho8; have HC8 := Lib.hid hC8; have HL8 := Lib.hid hl8; clear hC8 hl8 hid hz6; obtain ⟨N11, hN11⟩ : ∃ n : Nat, f 11 = (n : Int) := ⟨(f 11).toNat, by have := (HF.out 11 (by simp [thirteen])).1; omega⟩; (have hM11 : N11 < 4294967296 := by have := (HF.out 11 (by simp [thirteen])).2; omega); have hC9 : Hid (leb N11 4 = le4 (f 11).toNat) := Lib.hid (by rw [hN11, leb_4 N11 hM11, Int.toNat_natCast]); have hbx9 := hb0.below hB8 hb0.lt; have e9 := (hbx9.at_ 11 (hdc_at f 11 (by omega) (by omega) (by omega) (by omega))).trans (by rw [hN11]); (have hn9 : C8.length ≤ 100000 := by rw [HL8.out]; omega); have hsz9 := hB8.size; clear hbx9)
        | fail)
      go_wp2_with fail
      refine (rput4_any w2.heap.size v8 C8 sp8 N11 4 (by omega) hn9 w8 hsz9 ho8).mono ?_
      rintro e w9 ⟨v9, sp9, rfl, ho9, hg9, hw9⟩
      have hB9 := hB8.grown hg9 hsz9 (fun k hk => (OwnsC.lt ho8 k hk).1)
      obtain ⟨C9, hD9⟩ : ∃ C, C = C8 ++ leb N11 4 := ⟨_, rfl⟩
      have hl9 : C9.length = 72 := by rw [hD9, List.length_append, leb_length _ _ (by omega), HL8.out]
      rw [← hD9] at ho9
      have HC9 := Lib.hid hD9
      have HL9 := Lib.hid hl9
      clear hD9 hl9 hg9 hw9 ho8 hB8 e9 hn9 hsz9
      clear hN11 hM11
      obtain ⟨N12, hN12⟩ : ∃ n : Nat, f 12 = (n : Int) := ⟨(f 12).toNat, by have := (HF.out 12 (by simp [thirteen])).1; omega⟩
      have hM12 : N12 < 4294967296 := by have := (HF.out 12 (by simp [thirteen])).2; omega
      have hC10 : Hid (leb N12 4 = le4 (f 12).toNat) := Lib.hid (by rw [hN12, leb_4 N12 hM12, Int.toNat_natCast])
      have hbx10 := hb0.below hB9 hb0.lt
      have e10 := (hbx10.at_ 12 (hdc_at f 12 (by omega) (by omega) (by omega) (by omega))).trans (by rw [hN12])
      have hn10 : C9.length ≤ 100000 := by rw [HL9.out]; omega
      have hsz10 := hB9.size
      clear hbx10
      go_wp2_with fail
      refine (rput4_any w2.heap.size v9 C9 sp9 N12 4 (by omega) hn10 w9 hsz10 ho9).mono ?_
      rintro e w10 ⟨v10, sp10, rfl, ho10, hg10, hw10⟩
      have hB10 := hB9.grown hg10 hsz10 (fun k hk => (OwnsC.lt ho9 k hk).1)
      obtain ⟨C10, hD10⟩ : ∃ C, C = C9 ++ leb N12 4 := ⟨_, rfl⟩
      have hl10 : C10.length = 76 := by rw [hD10, List.length_append, leb_length _ _ (by omega), HL9.out]
      rw [← hD10] at ho10
      have HC10 := Lib.hid hD10
      have HL10 := Lib.hid hl10
      clear hD10 hl10 hg10 hw10 ho9 hB9 e10 hn10 hsz10
      clear hN12 hM12
      have hC11 : Hid (leb T 8 = le8 (f 13).toNat) := Lib.hid (by rw [HN.out.2.2, leb_8, Int.toNat_natCast])
      have hbx11 := hb0.below hB10 hb0.lt
      have e11 := (hbx11.at_ 13 (hdc_u f 13 (by omega))).trans (by rw [HN.out.2.2])
      have hn11 : C10.length ≤ 100000 := by rw [HL10.out]; omega
      have hsz11 := hB10.size
      clear hbx11
      go_wp2_with fail
      refine (rput4_any w2.heap.size v10 C10 sp10 T 8 (by omega) hn11 w10 hsz11 ho10).mono ?_
      rintro e w11 ⟨v11, sp11, rfl, ho11, hg11, hw11⟩
      have hB11 := hB10.grown hg11 hsz11 (fun k hk => (OwnsC.lt ho10 k hk).1)
      obtain ⟨C11, hD11⟩ : ∃ C, C = C10 ++ leb T 8 := ⟨_, rfl⟩
      have hl11 : C11.length = 84 := by rw [hD11, List.length_append, leb_length _ _ (by omega), HL10.out]
      rw [← hD11] at ho11
      have HC11 := Lib.hid hD11
      have HL11 := Lib.hid hl11
      clear hD11 hl11 hg11 hw11 ho10 hB10 e11 hn11 hsz11
      obtain ⟨N14, hN14⟩ : ∃ n : Nat, f 14 = (n : Int) := ⟨(f 14).toNat, by have := (HF.out 14 (by simp [thirteen])).1; omega⟩
      have hM14 : N14 < 4294967296 := by have := (HF.out 14 (by simp [thirteen])).2; omega
      have hC12 : Hid (leb N14 4 = le4 (f 14).toNat) := Lib.hid (by rw [hN14, leb_4 N14 hM14, Int.toNat_natCast])
      have hbx12 := hb0.below hB11 hb0.lt
      have e12 := (hbx12.at_ 14 (hdc_at f 14 (by omega) (by omega) (by omega) (by omega))).trans (by rw [hN14])
      have hn12 : C11.length ≤ 100000 := by rw [HL11.out]; omega
      have hsz12 := hB11.size
      clear hbx12
      go_wp2_with fail
      refine (rput4_any w2.heap.size v11 C11 sp11 N14 4 (by omega) hn12 w11 hsz12 ho11).mono ?_
      rintro e w12 ⟨v12, sp12, rfl, ho12, hg12, hw12⟩
      have hB12 := hB11.grown hg12 hsz12 (fun k hk => (OwnsC.lt ho11 k hk).1)
      obtain ⟨C12, hD12⟩ : ∃ C, C = C11 ++ leb N14 4 := ⟨_, rfl⟩
      have hl12 : C12.length = 88 := by rw [hD12, List.length_append, leb_length _ _ (by omega), HL11.out]
      rw [← hD12] at ho12
      have HC12 := Lib.hid hD12
      have HL12 := Lib.hid hl12
      clear hD12 hl12 hg12 hw12 ho11 hB11 e12 hn12 hsz12
      clear hN14 hM14
      obtain ⟨N15, hN15⟩ : ∃ n : Nat, f 15 = (n : Int) := ⟨(f 15).toNat, by have := (HF.out 15 (by simp [thirteen])).1; omega⟩
      have hM15 : N15 < 4294967296 := by have := (HF.out 15 (by simp [thirteen])).2; omega
      have hC13 : Hid (leb N15 4 = le4 (f 15).toNat) := Lib.hid (by rw [hN15, leb_4 N15 hM15, Int.toNat_natCast])
      have hbx13 := hb0.below hB12 hb0.lt
      have e13 := (hbx13.at_ 15 (hdc_at f 15 (by omega) (by omega) (by omega) (by omega))).trans (by rw [hN15])
      have hn13 : C12.length ≤ 100000 := by rw [HL12.out]; omega
      have hsz13 := hB12.size
      clear hbx13
      go_wp2_with fail
      refine (rput4_any w2.heap.size v12 C12 sp12 N15 4 (by omega) hn13 w12 hsz13 ho12).mono ?_
      rintro e w13 ⟨v13, sp13, rfl, ho13, hg13, hw13⟩
      have hB13 := hB12.grown hg13 hsz13 (fun k hk => (OwnsC.lt ho12 k hk).1)
      obtain ⟨C13, hD13⟩ : ∃ C, C = C12 ++ leb N15 4 := ⟨_, rfl⟩
      have hl13 : C13.length = 92 := by rw [hD13, List.length_append, leb_length _ _ (by omega), HL12.out]
      rw [← hD13] at ho13
      have HC13 := Lib.hid hD13
      have HL13 := Lib.hid hl13
      clear hD13 hl13 hg13 hw13 ho12 hB12 e13 hn13 hsz13
      clear hN15 hM15
      have HX : Hid (C13 ++ List.replicate 148 0 = Hd.rest f s) := Lib.hid (by
        rw [HC13.out, HC12.out, HC11.out, HC10.out, HC9.out, HC8.out, HC0.out, HS2.out, hC9.out, hC10.out, hC11.out, hC12.out, hC13.out]
        unfold Hd.rest Hd.mid
        rw [HN.out.1, HN.out.2.1, Int.toNat_natCast, Int.toNat_natCast]
        simp [four_])
      obtain ⟨A13, c13, rfl, _⟩ := OwnB.open_ ho13
      have hsz := hB13.size
      rw [HL13.out] at ho13 ⊢
      go_wp2_with (first
        | (show wpList _ _ _ ((⟨some 78, _, _, _, _, _⟩ : Oper) :: _) _ _; refine wpList_append_zeros (o := ⟨some 78, _, _, _, _, _⟩) (by rfl) _ _ _ _ (by rfl) w2.heap.size _ .i64 Tryz.underlying39 Tryz.underlying3 u8info _ C13 sp13 (by rfl) ho13 148 (by rfl) (by rw [HL13.out]; omega) hsz ?_; intro v14 w14 sp14 ho14 hg14 _; have hB14 := hB13.grown hg14 hsz (fun k hk => (OwnsC.lt ho13 k hk).1); clear hg14 ho13 hB13)
        | fail)
      rw [HX.out] at ho14
      go_ret
      exact ⟨_, _, rfl, OwnsC.base_ ho14 (by rw [HSZ.out]; omega), by rw [hs0]; exact hB.out.trans (hB14.mono (by have := hB.out.size; omega))⟩
end Go.Proofs.YtfoegmjpfkmggaaGreatDoor

/- May a header be: the document's answer. No condition. -/
namespace Go.Proofs.YtfoegmjpfkmggaaGreatDoor
open Go.RowKit
theorem within_any (n a b : Int) (w : World) : Calls Tryz.prog 123 #[.int .i64 n, .int .i64 a, .int .i64 b] w fun e w' => e = .returned (.bool (decide (a ≤ n) && decide (n ≤ b))) ∧ w = w' := by
  by_cases h1 : a ≤ n
  · rw [decide_eq_true h1, Bool.true_and]
    go_enter Tryz.func123, Tryz.ntmps123
    go_wp2
    go_ret
    exact ⟨rfl, rfl⟩
  · rw [decide_eq_false h1, Bool.false_and]
    have h2 : n < a := by omega
    clear h1
    go_enter Tryz.func123, Tryz.ntmps123
    go_wp2
    go_ret
    exact ⟨rfl, rfl⟩
def okK (f : HdF) (b : Bool) (k : Nat) : Bool := b && (tenI.take k).all fun i => numOk (f i)
theorem okK_succ (f : HdF) (b : Bool) (k : Nat) (hk : k < 10) : okK f b (k + 1) = (okK f b k && numOk (f (tenI.getD k 0))) := by
  unfold okK
  have hl : tenI.length = 10 := rfl
  rw [List.take_succ_eq_append_getElem (by omega), List.all_append]
  simp only [List.all_cons, List.all_nil, Bool.and_true]
  rw [Bool.and_assoc, List.getD_eq_getElem?_getD, List.getElem?_eq_getElem (by omega)]; rfl
def RChkRel (f : HdF) (u v : Value) : Prop := ∃ (b : Bool) (k : Nat), (Hd.code f = if okK f b 10 then 0 else 2) ∧ k ≤ 10 ∧ v = .int .i64 (k : Int) ∧ u = .bool (okK f b k)
set_option maxHeartbeats 1000000 in
theorem rhcheck_any (f : HdF) (w : World) :
    Calls Tryz.prog 90 #[.agg (hdc f)] w fun e w' => e = .returned (.int .i64 (Hd.code f)) ∧ Below w.heap.size w w' := by
  have hg := Blk.new w 38 (hdc f)
  have hB0 := (Below.refl w.heap.size w).alloc (Nat.le_refl _) (.cells (hdc f) 38)
  have hfc : ∀ i, i < 16 → i ≠ 9 → i ≠ 10 → i ≠ 13 → (w.alloc (.cells (hdc f) 38)).cell? ⟨w.heap.size, i, none⟩ = some (.int .i64 (f i)) := fun i h1 h2 h3 h4 => hg.at_ i (hdc_at f i h1 h2 h3 h4)
  have c0 := hfc 0 (by omega) (by omega) (by omega) (by omega)
  have c1 := hfc 1 (by omega) (by omega) (by omega) (by omega)
  have c2 := hfc 2 (by omega) (by omega) (by omega) (by omega)
  have c3 := hfc 3 (by omega) (by omega) (by omega) (by omega)
  have c4 := hfc 4 (by omega) (by omega) (by omega) (by omega)
  have c5 := hfc 5 (by omega) (by omega) (by omega) (by omega)
  have c6 := hfc 6 (by omega) (by omega) (by omega) (by omega)
  have c7 := hfc 7 (by omega) (by omega) (by omega) (by omega)
  have c8 := hfc 8 (by omega) (by omega) (by omega) (by omega)
  have c11 := hfc 11 (by omega) (by omega) (by omega) (by omega)
  have c12 := hfc 12 (by omega) (by omega) (by omega) (by omega)
  have c14 := hfc 14 (by omega) (by omega) (by omega) (by omega)
  have c15 := hfc 15 (by omega) (by omega) (by omega) (by omega)
  have q0 := fun w' => within_any (f 0) 1 31 w'
  have q1 := fun w' => within_any (f 1) 0 6 w'
  have q2 := fun w' => within_any (f 2) 0 1024 w'
  have hcode : ∀ b0 b1 b2 : Bool, (decide (1 ≤ f 0) && decide (f 0 ≤ 31)) = b0 → (decide (0 ≤ f 1) && decide (f 1 ≤ 6)) = b1 → (decide (0 ≤ f 2) && decide (f 2 ≤ 1024)) = b2 → Hd.code f = if okK f (b0 && b1 && b2) 10 then 0 else 2 := by
    rintro b0 b1 b2 rfl rfl rfl
    unfold Hd.code Hd.ok okK
    rw [show tenI.take 10 = tenI from rfl]
    simp only [Bool.and_assoc]
  generalize hb0 : (decide (1 ≤ f 0) && decide (f 0 ≤ 31)) = b0 at q0
  generalize hb1 : (decide (0 ≤ f 1) && decide (f 1 ≤ 6)) = b1 at q1
  generalize hb2 : (decide (0 ≤ f 2) && decide (f 2 ≤ 1024)) = b2 at q2
  have HC := Lib.hid (hcode b0 b1 b2 hb0 hb1 hb2)
  have HB := Lib.hid hB0
  clear hcode hb0 hb1 hb2 hfc hB0 hg
  go_enter Tryz.func90, Tryz.ntmps90
  go_wp2_with fail
  refine (q0 _).mono ?_
  rintro e w1 ⟨rfl, rfl⟩
  cases b0
  case' true =>
    go_wp2_with fail
    refine (q1 _).mono ?_
    rintro e w1 ⟨rfl, rfl⟩
    cases b1
    case' true =>
      go_wp2_with fail
      refine (q2 _).mono ?_
      rintro e w1 ⟨rfl, rfl⟩
      cases b2
  all_goals
    clear q0 q1 q2
    go_wp2_with fail
    generalize hw2 : (w.alloc (.cells (hdc f) 38)).alloc _ = w2
    have hl : Blk w2 (w.heap.size + 1) 3 (tenI.map fun i => Value.int .i64 (f i)).toArray := by
      rw [← hw2]; exact Blk.new' _ _ _ (by simp)
    have HB2 := Lib.hid (show Below w.heap.size w w2 by rw [← hw2]; exact HB.out.alloc (by simp) _)
    have hpc : ∀ k, k < 10 → w2.cell? ⟨w.heap.size + 1, k, none⟩ = some (.int .i64 (f (tenI.getD k 0))) := fun k hk => hl.at_ k (by
      have : k = 0 ∨ k = 1 ∨ k = 2 ∨ k = 3 ∨ k = 4 ∨ k = 5 ∨ k = 6 ∨ k = 7 ∨ k = 8 ∨ k = 9 := by omega
      rcases this with rfl | rfl | rfl | rfl | rfl | rfl | rfl | rfl | rfl | rfl <;> rfl)
    clear hw2 HB hl c0 c1 c2 c3 c4 c5 c6 c7 c8 c11 c12 c14 c15
    go_loop [3, 5] (fun u v => RChkRel f u v) (fun _ v => 10 - (intOf v).toNat)
    case atStart => exact ⟨_, 0, HC.out, by omega, rfl, rfl⟩
    case round =>
      obtain ⟨B, k, hc, hk, rfl, rfl⟩ := hrel
      have HC1 := Lib.hid hc
      clear HC hc
      by_cases hk10 : k < 10
      · have d0 := hpc k hk10
        have hs := okK_succ f B k hk10
        have qk := within_any (f (tenI.getD k 0)) 0 1073741824 w2
        rw [show (decide (0 ≤ f (tenI.getD k 0)) && decide (f (tenI.getD k 0) ≤ 1073741824)) = numOk (f (tenI.getD k 0)) from rfl] at qk
        generalize f (tenI.getD k 0) = x at d0 qk hs
        generalize numOk x = y at qk hs
        generalize okK f B k = z at hs
        have HS := Lib.hid hs
        clear hs hpc
        cases z
        · go_wp2_with fail
          go_round
          case rel =>
            have hch : RChkRel f (.bool false) (.int .i64 ((k : Int) + 1)) := ⟨B, k + 1, HC1.out, by omega, by go_num, by rw [HS.out]; rfl⟩
            first | exact hch | exact ⟨_, hch, rfl, rfl⟩
          case measure => simp [intOf]; omega
        · go_wp2_with fail
          refine qk.mono ?_
          rintro e w3 ⟨rfl, rfl⟩
          clear qk
          go_wp2
          go_round
          case rel =>
            have hch : RChkRel f (.bool y) (.int .i64 ((k : Int) + 1)) := ⟨B, k + 1, HC1.out, by omega, by go_num, by rw [HS.out]; rfl⟩
            first | exact hch | exact ⟨_, hch, rfl, rfl⟩
          case measure => simp [intOf]; omega
      · obtain rfl : k = 10 := by omega
        clear hpc
        generalize okK f B 10 = z at HC1
        cases z
        · go_wp2
          go_ret
          exact ⟨ret_int HC1.out.symm, HB2.out⟩
        · go_wp2
          go_ret
          exact ⟨ret_int HC1.out.symm, HB2.out⟩
end Go.Proofs.YtfoegmjpfkmggaaGreatDoor

/- The document's rotation to the right. No condition. -/
namespace Go
open Go.RowKit
namespace Proofs.YtfoegmjpfkmggaaGreatDoor
set_option maxHeartbeats 400000 in
theorem right_any (x: UInt32) (n : Int) (h1 : 1 ≤ n) (h2 : n ≤ 31) (w : World) :
    Calls Tryz.prog 181 #[.int .u32 (iu32 x), .int .i64 n] w fun e w' => e = .returned (.int .u32 (iu32 (Sha.rotr x n.toNat))) ∧ ∃ k, w' = w.drewN k := by
  obtain ⟨n, rfl⟩ := Int.eq_ofNat_of_zero_le (show 0 ≤ n by omega)
  have e1 := u32_shr_w x n (by omega)
  have e2 := u32_shl_w x (32 - n) (by omega)
  have e3 : (32 - (n : Int)).toNat = 32 - n := by omega
  go_enter Tryz.func181, Tryz.ntmps181
  go_wp2
  go_quiet (fail)
  go_wp2
  go_ret
  exact ⟨rfl, _, rfl⟩
end Proofs.YtfoegmjpfkmggaaGreatDoor
end Go
