/- A range over a function that keeps blocks of its own and yields a fixed row of items: the body keeps what came since the range began. Plain facts over any program. No condition. -/
import Derived.Test.YtgkljncigbiffaaDoorMTableKnown19
import Derived.Laws.EntriesVeiled
import Derived.Lib.ConvBytes
namespace Go
open Go.RowKit
section
variable {F : Fence} {n : Nat} {P : Program}
/-- What came from B on and lay there lies there, but what the body calls its own. -/
structure Young (B : Nat) (X : List Nat) (W W' : World) : Prop where
  size : W.heap.size ≤ W'.heap.size
  same : ∀ (k : Nat) (o : Obj), B ≤ k → k ∉ X → W.heap[k]? = some o → W'.heap[k]? = some o
theorem Young.near {B : Nat} {X Y : List Nat} {W W' : World} (h : Near Y W W') (hX : ∀ x ∈ Y, x < B ∨ x ∈ X) : Young B X W W' :=
  ⟨h.size, fun k _ hB hn hk => (h.block k (Array.getElem?_eq_some_iff.1 hk).1 (fun e => (hX k e).elim (fun h => by omega) hn)).trans hk⟩
theorem Young.below {B : Nat} {X : List Nat} {W W' : World} (h : Below W.heap.size W W') : Young B X W W' := ⟨h.size, fun k _ _ _ hk => (h.block k (Array.getElem?_eq_some_iff.1 hk).1).trans hk⟩
theorem Young.trans {B : Nat} {X : List Nat} {W W' W'' : World} (h : Young B X W W') (k : Young B X W' W'') : Young B X W W'' := ⟨Nat.le_trans h.size k.size, fun j o hB hX hj => k.same j o hB hX (h.same j o hB hX hj)⟩
theorem Young.mono {B B' : Nat} {X : List Nat} {W W' : World} (h : Young B X W W') (hB : B ≤ B') : Young B' X W W' := ⟨h.size, fun j o hj hX ho => h.same j o (Nat.le_trans hB hj) hX ho⟩
/-- What the body calls its own grows by what came. -/
def Grown (X X' : List Nat) (W : World) : Prop := ∀ x ∈ X', x ∈ X ∨ W.heap.size ≤ x
theorem Grown.refl (X : List Nat) (W : World) : Grown X X W := fun _ h => .inl h
theorem Grown.trans {X X' X'' : List Nat} {W W' : World} (h : Grown X X' W) (k : Grown X' X'' W') (hs : W.heap.size ≤ W'.heap.size) : Grown X X'' W := fun x hx => (k x hx).elim (h x) fun h => .inr (Nat.le_trans hs h)
theorem Grown.mono {X X' : List Nat} {W W' : World} (h : Grown X X' W') (hs : W.heap.size ≤ W'.heap.size) : Grown X X' W := fun x hx => (h x hx).imp id fun h => Nat.le_trans hs h
theorem Grown.off {X X' : List Nat} {W : World} {x : Nat} (h : Grown X X' W) (hx : x ∉ X) (hl : x < W.heap.size) : x ∉ X' := fun hm => (h x hm).elim hx fun h => by omega
theorem Young.then_ {B : Nat} {X X' : List Nat} {W W' W'' : World} (h : Young B X W W') (g : Grown X X' W) (k : Young B X' W' W'') : Young B X W W'' :=
  ⟨Nat.le_trans h.size k.size, fun j o hB hX hj => k.same j o hB (g.off hX (Array.getElem?_eq_some_iff.1 hj).1) (h.same j o hB hX hj)⟩
theorem Young.put {B : Nat} {X : List Nat} (W : World) (l : Nat) (o : Obj) (hl : l < B) : Young B X W (W.putObj l o) := Young.near (putObj_near W l o) (fun x hx => .inl (by rw [List.mem_singleton.1 hx]; exact hl))
/-- The function's part: it may write what is no cells, where it came later; the body keeps what came since, but its own. -/
def RowOfY (F : Fence) (n : Nat) (P : Program) (gf : Nat) (lb : Array Value) (encs : Nat → Array Value) (I : Nat → List Nat → World → Prop) (N : Nat) : Prop :=
  ∀ (l : Nat) (J : Nat → List Nat → World → Prop) (Jx : World → Prop) (X : List Nat) (W : World), (∀ k X W, J k X W → I k X W) → (∀ k X W, J k X W → ∀ x ∈ X, x < W.heap.size) →
    (∀ k X W1 W2, J k X W1 → Kept W.heap.size W1 W2 → J k X W2) → (∀ W1 W2, Jx W1 → Kept W.heap.size W1 W2 → Jx W2) →
    (∀ k X W1, J k X W1 → k < N → YieldAt F (n - 1) P l (encs k) W1 fun e W' => (e = .returned (.bool true) ∧ ∃ X', J (k + 1) X' W' ∧ Young W.heap.size X W1 W' ∧ Grown X X' W1) ∨ (e = .returned (.bool false) ∧ Jx W')) →
    J 0 X W → CallsIn F n P gf (#[.func (.yield l) #[] #[]] ++ lb) W fun e W' => (∃ v, e = .returned v) ∧ ((∃ X', J N X' W') ∨ Jx W')
/-- How a round's body may end. -/
def rowPostY (B : Nat) (X : List Nat) (I : List Nat → World → Prop) (Ix : Code → World → Prop) (W : World) : Exit → Act → World → Prop
  | .normal, _, W' => Young B X W W' ∧ ∃ X', I X' W' ∧ Grown X X' W
  | .ret, _, W' => Young B X W W' ∧ Ix .ret W'
  | .exit i, _, W' => Young B X W W' ∧ Ix (.exit i) W'
  | .goto t, _, W' => Young B X W W' ∧ Ix (.goto t) W'
  | .panic _, _, _ => False
  | .outgrown, _, _ => False
theorem wpIn_rangeRowY {g : Operand} {ps : Array Tmp} {assign body : Code} {Q : Exit → Act → World → Prop} {a : Act} {w : World}
    (hro : F.round = none) (h1 : 1 ≤ n) {gf : Nat} {lb : Array Value} (hg : a.eval g = .func (.func gf) #[] lb) (hFg : F.fn gf) (eg : ∀ args w, (callFunc gf args).run P w = .ok (.enter gf args) w)
    (encs : Nat → Array Value) (hps : ∀ k, (encs k).size = ps.size) (N : Nat) (I : Nat → List Nat → World → Prop) (Ix : Code → World → Prop)
    (hIX : ∀ k X W, I k X W → ∀ x ∈ X, x < W.heap.size)
    (hI : ∀ k X W W', I k X W → Kept w.heap.size W W' → I k X W') (hIx : ∀ c W W', Ix c W → Kept w.heap.size W W' → Ix c W') {X0 : List Nat} (h0 : I 0 X0 w)
    (hrow : RowOfY F (n - 1) P gf lb encs I N)
    (hround : ∀ l k X W, w.heap.size ≤ l → l < W.heap.size → I k X W → k < N → assign.wpIn (F.inRound l) (n - 1 - 1) P
      (Exit.then (fun a₁ W₁ => Below W.heap.size W W₁ ∧ ∀ W₂, Kept w.heap.size W₁ W₂ → body.wpIn (F.inRound l) (n - 1 - 1) P (rowPostY w.heap.size X (I (k + 1)) Ix W₂) a₁ W₂) (fun _ _ _ => False))
      { tmps := (ps.zip (encs k)).foldl (fun t (p, v) => t.setIfInBounds p v) a.tmps, defers := [] } W)
    (hdone : ∀ D X W, w.heap.size ≤ D → I N X W → W.heap[D]? = some (.deferred (some [])) → Q .normal { a with defers := { target := .collected D, args := #[] } :: a.defers } W)
    (hstop : ∀ D c W, w.heap.size ≤ D → Ix c W → W.heap[D]? = some (.deferred (some [])) → c.wpIn F n P Q { a with defers := { target := .collected D, args := #[] } :: a.defers } W) :
    (Code.rangeFunc g ps assign body).wpIn F n P Q a w := by
  refine wpIn_rangeFunc fun fn hfn => ?_
  rw [hro]
  -- the loop's record, in a state; the two blocks that the loop lays
  let R : LoopState → Option Code → Obj := fun st pe => .loop { state := st, pending := pe, fn, tmps := a.tmps, params := ps, assign, body, defers := w.heap.size }
  let D := w.heap.size
  let l := w.heap.size + 1
  -- what the loop needs of a world, beside the caller's own
  let Bk : LoopState → Option Code → World → Prop := fun st pe W => W.heap[l]? = some (R st pe) ∧ W.heap[D]? = some (.deferred (some []))
  have bklt : ∀ {st pe W}, Bk st pe W → l < W.heap.size := fun h => (Array.getElem?_eq_some_iff.1 h.1).1
  have bkput : ∀ {st pe W} st' pe', Bk st pe W → Bk st' pe' (W.putObj l (R st' pe')) := fun st' pe' h =>
    ⟨World.putObj_heap_same (bklt h), (World.putObj_heap_other (by show D ≠ l; omega)).trans h.2⟩
  have bkput' : ∀ {st pe W} (o : Obj), Bk st pe W → (W.putObj l o).heap[D]? = some (.deferred (some [])) := fun o h => (World.putObj_heap_other (by show D ≠ l; omega)).trans h.2
  have bkbel : ∀ {st pe W W'}, Bk st pe W → Below W.heap.size W W' → Bk st pe W' := fun h k =>
    ⟨(k.block _ (bklt h)).trans h.1, (k.block _ (by have := bklt h; omega)).trans h.2⟩
  have low : ∀ {st pe W}, Bk st pe W → w.heap.size ≤ W.heap.size := fun h => by have := bklt h; omega
  have put : ∀ {st pe W} (o : Obj), Bk st pe W → Kept w.heap.size W (W.putObj l o) := fun o h => Kept.put (by show D ≤ l; omega) h.1 rfl
  -- the world behind the loop's entry
  let W1 := (w.alloc (.deferred (some []))).alloc (R .ready none)
  have e1 : Below w.heap.size w W1 := ((Below.refl _ w).alloc (Nat.le_refl _) _).alloc (by simp) _
  have b1 : Bk .ready none W1 := by
    refine ⟨?_, ?_⟩
    · have h := World.alloc_heap_new (w.alloc (.deferred (some []))) (R .ready none)
      rwa [World.size_alloc] at h
    · exact (Below.heap_alloc _ _ _ (by rw [World.size_alloc]; exact Nat.lt_succ_self _)).trans (World.alloc_heap_new w _)
  have hW1 : W1.heap.size = w.heap.size + 2 := by show ((w.alloc _).alloc _).heap.size = _; rw [World.size_alloc, World.size_alloc]
  have kw : ∀ {W W' : World}, Kept W1.heap.size W W' → Kept w.heap.size W W' := fun k => ⟨k.os, k.tape, k.output, k.size, fun j hj h => k.low j (by omega) h, k.cells⟩
  have bkkept : ∀ {st pe W W'}, Bk st pe W → Kept W1.heap.size W W' → Bk st pe W' := fun h k =>
    ⟨(k.low _ (by rw [hW1]; show w.heap.size + 1 < _; omega) (bklt h)).trans h.1, (k.low _ (by rw [hW1]; show w.heap.size < _; omega) (by have := bklt h; omega)).trans h.2⟩
  refine ⟨l, [{ target := .collected D, args := #[] }], W1, { target := .fn (.func gf) lb, args := #[.func (.yield l) #[] #[]] }, W1, gf, #[.func (.yield l) #[] #[]] ++ lb, W1,
    run_enterLoop_outer _ _ _ _ _, ?_, ?_, ?_, fun _ => h1, ?_⟩
  · simp only [resolve, hg]
    simp [go_sem]
  · intro f' hf'
    simp [Target.leads] at hf'
    exact hf' ▸ hFg
  · simp [invoke, go_sem, eg]
  refine (hrow l (fun k X W => (I k X W ∧ Bk .ready none W) ∧ D ∉ X ∧ l ∉ X) (fun W => ∃ c, Ix c W ∧ Bk .done (some c) W) X0 W1 (fun _ _ _ h => h.1.1) (fun k X W h => hIX k X W h.1.1)
    (fun k X W W' h b => ⟨⟨hI k X W W' h.1.1 (kw b), bkkept h.1.2 b⟩, h.2⟩) (fun W W' h b => by obtain ⟨c, hc, hb⟩ := h; exact ⟨c, hIx c W W' hc (kw b), bkkept hb b⟩) ?_ ⟨⟨hI 0 X0 w W1 h0 (Kept.below e1), b1⟩, fun hm => Nat.lt_irrefl _ (hIX 0 X0 w h0 _ hm), fun hm => Nat.not_succ_lt_self (hIX 0 X0 w h0 _ hm)⟩).mono ?_
  · -- a round
    rintro k X W ⟨⟨hi, hb⟩, hDX, hlX⟩ hk
    refine ⟨fn, _, assign, body, run_yield hb.1 (hps k), roundIn_of_wpIn hfn ?_⟩
    refine wpIn_mono (hround l k X W (by show D ≤ l; omega) (bklt hb) hi hk) ?_
    rintro e a1 W2 he
    cases e
    case normal =>
      obtain ⟨hB, hbody⟩ := he
      have hb2 := bkbel hb hB
      refine ⟨_, run_beginRound hb2.1 rfl, ?_⟩
      have hb3 := bkput .busy none hb2
      refine wpIn_mono (hbody _ (Kept.put (by show D ≤ l; omega) hb2.1 rfl)) ?_
      rintro e3 a3 W4 hp
      have fin : Young w.heap.size X (W2.putObj l (R .busy none)) W4 → Bk .busy none W4 := fun hkf => ⟨hkf.same _ _ (by show D ≤ l; omega) hlX hb3.1, hkf.same _ _ (Nat.le_refl _) hDX hb3.2⟩
      cases e3 with
      | normal =>
        obtain ⟨hy, X', hi', hg⟩ := hp
        have hb4 := fin hy
        have hs2 : W2.heap.size ≤ (W2.putObj l (R .busy none)).heap.size := (Young.put (B := W1.heap.size) (X := X) W2 l (R .busy none) (by rw [hW1]; show w.heap.size + 1 < _; omega)).size
        have hg1 := hg.mono (Nat.le_trans hB.size hs2)
        exact ⟨_, _, run_endRound none hb4.1, .inl ⟨rfl, X', ⟨⟨hI _ _ _ _ hi' (put _ hb4), bkput .ready none hb4⟩, hg1.off hDX (by have := bklt hb; show w.heap.size < _; omega), hg1.off hlX (bklt hb)⟩, ((Young.below hB).trans (Young.put W2 l _ (by rw [hW1]; show w.heap.size + 1 < _; omega))).trans ((hy.mono (by rw [hW1]; omega)).trans (Young.put W4 l _ (by rw [hW1]; show w.heap.size + 1 < _; omega))), hg1⟩⟩
      | ret =>
        have hb4 := fin hp.1
        exact ⟨_, _, run_endRound (some .ret) hb4.1, .inr ⟨rfl, .ret, hIx _ _ _ hp.2 (put _ hb4), bkput .done (some .ret) hb4⟩⟩
      | exit i =>
        have hb4 := fin hp.1
        exact ⟨_, _, run_endRound (some (.exit i)) hb4.1, .inr ⟨rfl, .exit i, hIx _ _ _ hp.2 (put _ hb4), bkput .done (some (.exit i)) hb4⟩⟩
      | goto t =>
        have hb4 := fin hp.1
        exact ⟨_, _, run_endRound (some (.goto t)) hb4.1, .inr ⟨rfl, .goto t, hIx _ _ _ hp.2 (put _ hb4), bkput .done (some (.goto t)) hb4⟩⟩
      | panic ch => exact hp.elim
      | outgrown => exact hp.elim
    all_goals exact he.elim
  · -- behind the function
    rintro e W2 ⟨⟨v, rfl⟩, (⟨X, ⟨hi, hb⟩, -⟩ | ⟨c, hc, hb⟩)⟩
    · exact ⟨none, _, run_endLoop hb.1 (by simp), hdone D X _ (Nat.le_refl _) (hI _ _ _ _ hi (put _ hb)) (bkput' _ hb)⟩
    · exact ⟨some c, _, run_endLoop hb.1 (by simp), hstop D c _ (Nat.le_refl _) (hIx _ _ _ hc (put _ hb)) (bkput' _ hb)⟩
end
end Go

/- A range over a function whose items come with the function's own memory: an item is known by what holds of it. Plain facts over any program. No condition. -/
namespace Go
open Go.RowKit
section
variable {F : Fence} {n : Nat} {P : Program}
/-- The function's part; an item is known by what holds of it: it may write what is no cells, where it came later; the body keeps what came since, but its own. -/
def RowOfV (F : Fence) (n : Nat) (P : Program) (gf : Nat) (lb : Array Value) (E : Nat → World → Array Value → Prop) (I : Nat → List Nat → World → Prop) (N : Nat) : Prop :=
  ∀ (l : Nat) (J : Nat → List Nat → World → Prop) (Jx : World → Prop) (X : List Nat) (W : World), (∀ k X W, J k X W → I k X W) → (∀ k X W, J k X W → ∀ x ∈ X, x < W.heap.size) →
    (∀ k X W1 W2, J k X W1 → Kept W.heap.size W1 W2 → J k X W2) → (∀ W1 W2, Jx W1 → Kept W.heap.size W1 W2 → Jx W2) →
    (∀ k X W1 vals, J k X W1 → k < N → E k W1 vals → YieldAt F (n - 1) P l vals W1 fun e W' => (e = .returned (.bool true) ∧ ∃ X', J (k + 1) X' W' ∧ Young W.heap.size X W1 W' ∧ Grown X X' W1) ∨ (e = .returned (.bool false) ∧ Jx W')) →
    J 0 X W → CallsIn F n P gf (#[.func (.yield l) #[] #[]] ++ lb) W fun e W' => (∃ v, e = .returned v) ∧ ((∃ X', J N X' W') ∨ Jx W')
theorem wpIn_rangeRowV {g : Operand} {ps : Array Tmp} {assign body : Code} {Q : Exit → Act → World → Prop} {a : Act} {w : World}
    (hro : F.round = none) (h1 : 1 ≤ n) {gf : Nat} {lb : Array Value} (hg : a.eval g = .func (.func gf) #[] lb) (hFg : F.fn gf) (eg : ∀ args w, (callFunc gf args).run P w = .ok (.enter gf args) w)
    (E : Nat → World → Array Value → Prop) (hps : ∀ k W vals, E k W vals → vals.size = ps.size) (N : Nat) (I : Nat → List Nat → World → Prop) (Ix : Code → World → Prop)
    (hIX : ∀ k X W, I k X W → ∀ x ∈ X, x < W.heap.size)
    (hI : ∀ k X W W', I k X W → Kept w.heap.size W W' → I k X W') (hIx : ∀ c W W', Ix c W → Kept w.heap.size W W' → Ix c W') {X0 : List Nat} (h0 : I 0 X0 w)
    (hrow : RowOfV F (n - 1) P gf lb E I N)
    (hround : ∀ l k X W vals, w.heap.size ≤ l → l < W.heap.size → I k X W → k < N → E k W vals → assign.wpIn (F.inRound l) (n - 1 - 1) P
      (Exit.then (fun a₁ W₁ => Below W.heap.size W W₁ ∧ ∀ W₂, Kept w.heap.size W₁ W₂ → body.wpIn (F.inRound l) (n - 1 - 1) P (rowPostY w.heap.size X (I (k + 1)) Ix W₂) a₁ W₂) (fun _ _ _ => False))
      { tmps := (ps.zip vals).foldl (fun t (p, v) => t.setIfInBounds p v) a.tmps, defers := [] } W)
    (hdone : ∀ D X W, w.heap.size ≤ D → I N X W → W.heap[D]? = some (.deferred (some [])) → Q .normal { a with defers := { target := .collected D, args := #[] } :: a.defers } W)
    (hstop : ∀ D c W, w.heap.size ≤ D → Ix c W → W.heap[D]? = some (.deferred (some [])) → c.wpIn F n P Q { a with defers := { target := .collected D, args := #[] } :: a.defers } W) :
    (Code.rangeFunc g ps assign body).wpIn F n P Q a w := by
  refine wpIn_rangeFunc fun fn hfn => ?_
  rw [hro]
  -- the loop's record, in a state; the two blocks that the loop lays
  let R : LoopState → Option Code → Obj := fun st pe => .loop { state := st, pending := pe, fn, tmps := a.tmps, params := ps, assign, body, defers := w.heap.size }
  let D := w.heap.size
  let l := w.heap.size + 1
  -- what the loop needs of a world, beside the caller's own
  let Bk : LoopState → Option Code → World → Prop := fun st pe W => W.heap[l]? = some (R st pe) ∧ W.heap[D]? = some (.deferred (some []))
  have bklt : ∀ {st pe W}, Bk st pe W → l < W.heap.size := fun h => (Array.getElem?_eq_some_iff.1 h.1).1
  have bkput : ∀ {st pe W} st' pe', Bk st pe W → Bk st' pe' (W.putObj l (R st' pe')) := fun st' pe' h =>
    ⟨World.putObj_heap_same (bklt h), (World.putObj_heap_other (by show D ≠ l; omega)).trans h.2⟩
  have bkput' : ∀ {st pe W} (o : Obj), Bk st pe W → (W.putObj l o).heap[D]? = some (.deferred (some [])) := fun o h => (World.putObj_heap_other (by show D ≠ l; omega)).trans h.2
  have bkbel : ∀ {st pe W W'}, Bk st pe W → Below W.heap.size W W' → Bk st pe W' := fun h k =>
    ⟨(k.block _ (bklt h)).trans h.1, (k.block _ (by have := bklt h; omega)).trans h.2⟩
  have low : ∀ {st pe W}, Bk st pe W → w.heap.size ≤ W.heap.size := fun h => by have := bklt h; omega
  have put : ∀ {st pe W} (o : Obj), Bk st pe W → Kept w.heap.size W (W.putObj l o) := fun o h => Kept.put (by show D ≤ l; omega) h.1 rfl
  -- the world behind the loop's entry
  let W1 := (w.alloc (.deferred (some []))).alloc (R .ready none)
  have e1 : Below w.heap.size w W1 := ((Below.refl _ w).alloc (Nat.le_refl _) _).alloc (by simp) _
  have b1 : Bk .ready none W1 := by
    refine ⟨?_, ?_⟩
    · have h := World.alloc_heap_new (w.alloc (.deferred (some []))) (R .ready none)
      rwa [World.size_alloc] at h
    · exact (Below.heap_alloc _ _ _ (by rw [World.size_alloc]; exact Nat.lt_succ_self _)).trans (World.alloc_heap_new w _)
  have hW1 : W1.heap.size = w.heap.size + 2 := by show ((w.alloc _).alloc _).heap.size = _; rw [World.size_alloc, World.size_alloc]
  have kw : ∀ {W W' : World}, Kept W1.heap.size W W' → Kept w.heap.size W W' := fun k => ⟨k.os, k.tape, k.output, k.size, fun j hj h => k.low j (by omega) h, k.cells⟩
  have bkkept : ∀ {st pe W W'}, Bk st pe W → Kept W1.heap.size W W' → Bk st pe W' := fun h k =>
    ⟨(k.low _ (by rw [hW1]; show w.heap.size + 1 < _; omega) (bklt h)).trans h.1, (k.low _ (by rw [hW1]; show w.heap.size < _; omega) (by have := bklt h; omega)).trans h.2⟩
  refine ⟨l, [{ target := .collected D, args := #[] }], W1, { target := .fn (.func gf) lb, args := #[.func (.yield l) #[] #[]] }, W1, gf, #[.func (.yield l) #[] #[]] ++ lb, W1,
    run_enterLoop_outer _ _ _ _ _, ?_, ?_, ?_, fun _ => h1, ?_⟩
  · simp only [resolve, hg]
    simp [go_sem]
  · intro f' hf'
    simp [Target.leads] at hf'
    exact hf' ▸ hFg
  · simp [invoke, go_sem, eg]
  refine (hrow l (fun k X W => (I k X W ∧ Bk .ready none W) ∧ D ∉ X ∧ l ∉ X) (fun W => ∃ c, Ix c W ∧ Bk .done (some c) W) X0 W1 (fun _ _ _ h => h.1.1) (fun k X W h => hIX k X W h.1.1)
    (fun k X W W' h b => ⟨⟨hI k X W W' h.1.1 (kw b), bkkept h.1.2 b⟩, h.2⟩) (fun W W' h b => by obtain ⟨c, hc, hb⟩ := h; exact ⟨c, hIx c W W' hc (kw b), bkkept hb b⟩) ?_ ⟨⟨hI 0 X0 w W1 h0 (Kept.below e1), b1⟩, fun hm => Nat.lt_irrefl _ (hIX 0 X0 w h0 _ hm), fun hm => Nat.not_succ_lt_self (hIX 0 X0 w h0 _ hm)⟩).mono ?_
  · -- a round
    rintro k X W vals ⟨⟨hi, hb⟩, hDX, hlX⟩ hk hE
    refine ⟨fn, _, assign, body, run_yield hb.1 (hps k W vals hE), roundIn_of_wpIn hfn ?_⟩
    refine wpIn_mono (hround l k X W vals (by show D ≤ l; omega) (bklt hb) hi hk hE) ?_
    rintro e a1 W2 he
    cases e
    case normal =>
      obtain ⟨hB, hbody⟩ := he
      have hb2 := bkbel hb hB
      refine ⟨_, run_beginRound hb2.1 rfl, ?_⟩
      have hb3 := bkput .busy none hb2
      refine wpIn_mono (hbody _ (Kept.put (by show D ≤ l; omega) hb2.1 rfl)) ?_
      rintro e3 a3 W4 hp
      have fin : Young w.heap.size X (W2.putObj l (R .busy none)) W4 → Bk .busy none W4 := fun hkf => ⟨hkf.same _ _ (by show D ≤ l; omega) hlX hb3.1, hkf.same _ _ (Nat.le_refl _) hDX hb3.2⟩
      cases e3 with
      | normal =>
        obtain ⟨hy, X', hi', hg⟩ := hp
        have hb4 := fin hy
        have hs2 : W2.heap.size ≤ (W2.putObj l (R .busy none)).heap.size := (Young.put (B := W1.heap.size) (X := X) W2 l (R .busy none) (by rw [hW1]; show w.heap.size + 1 < _; omega)).size
        have hg1 := hg.mono (Nat.le_trans hB.size hs2)
        exact ⟨_, _, run_endRound none hb4.1, .inl ⟨rfl, X', ⟨⟨hI _ _ _ _ hi' (put _ hb4), bkput .ready none hb4⟩, hg1.off hDX (by have := bklt hb; show w.heap.size < _; omega), hg1.off hlX (bklt hb)⟩, ((Young.below hB).trans (Young.put W2 l _ (by rw [hW1]; show w.heap.size + 1 < _; omega))).trans ((hy.mono (by rw [hW1]; omega)).trans (Young.put W4 l _ (by rw [hW1]; show w.heap.size + 1 < _; omega))), hg1⟩⟩
      | ret =>
        have hb4 := fin hp.1
        exact ⟨_, _, run_endRound (some .ret) hb4.1, .inr ⟨rfl, .ret, hIx _ _ _ hp.2 (put _ hb4), bkput .done (some .ret) hb4⟩⟩
      | exit i =>
        have hb4 := fin hp.1
        exact ⟨_, _, run_endRound (some (.exit i)) hb4.1, .inr ⟨rfl, .exit i, hIx _ _ _ hp.2 (put _ hb4), bkput .done (some (.exit i)) hb4⟩⟩
      | goto t =>
        have hb4 := fin hp.1
        exact ⟨_, _, run_endRound (some (.goto t)) hb4.1, .inr ⟨rfl, .goto t, hIx _ _ _ hp.2 (put _ hb4), bkput .done (some (.goto t)) hb4⟩⟩
      | panic ch => exact hp.elim
      | outgrown => exact hp.elim
    all_goals exact he.elim
  · -- behind the function
    rintro e W2 ⟨⟨v, rfl⟩, (⟨X, ⟨hi, hb⟩, -⟩ | ⟨c, hc, hb⟩)⟩
    · exact ⟨none, _, run_endLoop hb.1 (by simp), hdone D X _ (Nat.le_refl _) (hI _ _ _ _ hi (put _ hb)) (bkput' _ hb)⟩
    · exact ⟨some c, _, run_endLoop hb.1 (by simp), hstop D c _ (Nat.le_refl _) (hIx _ _ _ hc (put _ hb)) (bkput' _ hb)⟩
end
end Go

/- The pairs of a table's data blocks, as a row of items: the program's index.pairs. Conditions: the caller keeps the grid and the index; the data blocks can be read. -/
namespace Go.Proofs.YtgkljncigbiffaaDoor
open Go.RowKit
attribute [local go_sem] Oper.semAt_some
/-- Some blocks between two numbers lie as they lay. -/
def Held (B0 B1 : Nat) (w w' : World) : Prop := ∀ k, B0 ≤ k → k < B1 → w'.heap[k]? = w.heap[k]?
theorem Held.refl (B0 B1 : Nat) (w : World) : Held B0 B1 w w := fun _ _ _ => rfl
theorem Held.trans {B0 B1 : Nat} {w w' w'' : World} (h : Held B0 B1 w w') (k : Held B0 B1 w' w'') : Held B0 B1 w w'' := fun j h0 h1 => (k j h0 h1).trans (h j h0 h1)
theorem Held.below {B0 B1 : Nat} {w w' : World} (h : Below w.heap.size w w') (hs : B1 ≤ w.heap.size) : Held B0 B1 w w' := fun j _ h1 => h.block j (by omega)
theorem Held.young {B B0 B1 : Nat} {X : List Nat} {w w' : World} (h : Young B X w w') (h0 : B ≤ B0) (hs : B1 ≤ w.heap.size) (hX : ∀ x ∈ X, x < B0 ∨ B1 ≤ x) : Held B0 B1 w w' := fun j j0 j1 => by
  have hj : j < w.heap.size := by omega
  exact (h.same j _ (by omega) (fun hm => by have := hX j hm; omega) (Array.getElem?_eq_getElem hj)).trans (Array.getElem?_eq_getElem hj).symm
theorem OwnsC.held {e : TypeId} {size base n B1 : Nat} {w w' : World} {v : Value} {xs sp : List Value} (h : OwnsC e size w base v n xs sp) (k : Held base B1 w w') (hs : w.heap.size ≤ B1) : OwnsC e size w' base v n xs sp := by
  rcases h with h | ⟨g, cap, rfl, hb, hgg, rest⟩
  · exact .inl h
  · exact .inr ⟨g, cap, rfl, hb, (k g hb (Nat.lt_of_lt_of_le hgg.lt hs)).trans hgg, rest⟩
theorem PairO.held {base B1 : Nat} {w w' : World} {kv vv : Value} {p : PairT} (h : PairO w base kv vv p) (k : Held base B1 w w') (hs : w.heap.size ≤ B1) : PairO w' base kv vv p := by
  obtain ⟨sk, sv, h1, h2⟩ := h
  exact ⟨sk, sv, OwnsC.held h1 k hs, OwnsC.held h2 k hs⟩
/-- The items of the data blocks that are meant. -/
def titems (p : Nat → Bool) (G : Nat → List PairT) (m : Nat) : List PairT := (List.range m).flatMap fun i => if p i = true then G i else []
theorem titems_succ (p : Nat → Bool) (G : Nat → List PairT) (i : Nat) : titems p G (i + 1) = titems p G i ++ (if p i = true then G i else []) := by
  unfold titems
  rw [List.range_succ, List.flatMap_append]
  simp
/-- What an item is. -/
def PIt (l : List PairT) (k : Nat) (W : World) (vals : Array Value) : Prop := ∃ (p : PairT) (kv vv : Value), l[k]? = some p ∧ vals = #[.agg #[kv, vv, .bool p.2.2.1], .int .i64 0] ∧ PairO W 0 kv vv p
/-- What the caller keeps. -/
structure PKeeps (q : GPl) (g : Grd) (d : Dsk) (bx bs bg : Nat) (A : Option Addr) (c : Nat) (K : Option Addr) (ck : Nat) (x : List RefT × List (List UInt8)) (fs : Nat) (sb : Array Value) (W : World) : Prop where
  grid : GridR W q g d none
  ix : Blk W bx 128 (indc A c K ck x)
  at_ : IndexAt W A c K ck x
  some_ : Blk W bs 133 #[.func (.func fs) #[] sb]
  gp : Blk W bg 24 #[.pointer (some ⟨q.gg, 0, none⟩)]
theorem titems_pre (p : Nat → Bool) (Gr : Nat → List PairT) (i : Nat) : ∀ m, i ≤ m → ∃ T, titems p Gr m = titems p Gr i ++ T := fun m => by
  induction m with
  | zero => exact fun h => ⟨[], by rw [Nat.le_zero.1 h, List.append_nil]⟩
  | succ m ih =>
    intro h
    by_cases e : i = m + 1
    · exact ⟨[], by rw [e, List.append_nil]⟩
    · obtain ⟨T, hT⟩ := ih (by omega)
      exact ⟨T ++ (if p m = true then Gr m else []), by rw [titems_succ, hT, List.append_assoc]⟩
theorem titems_at (p : Nat → Bool) (Gr : Nat → List PairT) {i m j : Nat} (hi : i < m) (hp : p i = true) (hj : j < (Gr i).length) : (titems p Gr m)[(titems p Gr i).length + j]? = some (Gr i)[j] ∧ (titems p Gr i).length + j < (titems p Gr m).length := by
  obtain ⟨T, hT⟩ := titems_pre p Gr (i + 1) m (by omega)
  rw [titems_succ, if_pos hp] at hT
  refine ⟨?_, by rw [hT]; simp only [List.length_append]; omega⟩
  rw [hT, List.append_assoc, List.getElem?_append_right (by omega), Nat.add_sub_cancel_left, List.getElem?_append_left hj, List.getElem?_eq_getElem hj]
/-- Ahead of each pair of a block. -/
def PiRel (J : Nat → List Nat → World → Prop) (k0 len B0 B1 : Nat) (wt : World) (v : Value) (wr : World) : Prop := ∃ (j : Nat) (X : List Nat), j ≤ len ∧ v = .int .i64 (j : Int) ∧ J (k0 + j) X wr ∧ Held B0 B1 wt wr ∧ (∀ x ∈ X, x < B0 ∨ B1 ≤ x) ∧ B1 ≤ wr.heap.size
/-- Ahead of each ref. -/
def PoRel (W : World) (p : Nat → Bool) (Gr : Nat → List PairT) (m : Nat) (J : Nat → List Nat → World → Prop) (v : Value) (wr : World) : Prop := ∃ (i : Nat) (X : List Nat), i ≤ m ∧ v = .int .i64 (i : Int) ∧ J (titems p Gr i).length X wr ∧ W.heap.size ≤ wr.heap.size
set_option maxRecDepth 100000 in
set_option maxHeartbeats 4000000 in
theorem pairs_row (n : Nat) (hn : 1 ≤ n) {q : GPl} {g : Grd} {d : Dsk} {bx bs bg : Nat} {A : Option Addr} {c : Nat} {K : Option Addr} {ck : Nat} {x : List RefT × List (List UInt8)} {fs : Nat} {sb : Array Value} (hlen : g.W.length ≤ 1099511627776) (hx16 : x.1.length ≤ 16)
    (heg : ∀ args w, (callFunc fs args).run Tryd.prog w = .ok (.enter fs args) w) (p : Nat → Bool) (Gr : Nat → List PairT) (Ex : World → Prop)
    (hs : ∀ (i : Nat) (W : World), i < x.1.length → PKeeps q g d bx bs bg A c K ck x fs sb W → Ex W → Calls Tryd.prog fs (#[.int .i64 (i : Int)] ++ sb) W fun e W' => e = .returned (.bool (p i)) ∧ Below W.heap.size W W')
    (hd : ∀ i, (h : i < x.1.length) → p i = true → tdata g d none x.1[i] = (0, Gr i, g))
    (I : Nat → List Nat → World → Prop) (hI : ∀ k X W, I k X W → PKeeps q g d bx bs bg A c K ck x fs sb W ∧ Ex W) :
    RowOfV Fence.wide n Tryd.prog 107 #[.pointer (some ⟨bx, 0, none⟩), .pointer (some ⟨bs, 0, none⟩), .pointer (some ⟨bg, 0, none⟩)] (PIt (titems p Gr x.1.length)) I (titems p Gr x.1.length).length := by
  intro l J Jx X W hJI hJX hJb hJxb hY hJ0
  refine callsIn_of_wp Tryd.func107 rfl trivial ?_ rfl
  simp only [Tryd.ntmps107, List.size_toArray, List.length_cons, List.length_nil, Nat.reduceAdd, Nat.reduceSub, Array.replicate_succ, Array.replicate_zero, List.push_toArray, List.append_toArray, List.nil_append, List.cons_append]
  have hK : ∀ k X W, J k X W → PKeeps q g d bx bs bg A c K ck x fs sb W ∧ Ex W := fun k X W h => hI k X W (hJI k X W h)
  have HK := Lib.hid hK
  have HJ := Lib.hid (And.intro hJX (And.intro hJb (And.intro hJxb hY)))
  have d0 := (hK _ _ _ hJ0).1.ix.at_ 0 (v := .slice A x.1.length c) rfl
  have H0 := Lib.hid hJ0
  have HS := Lib.hid (And.intro hs hd)
  clear hK hJX hJb hJxb hY hJI hI hs hd hJ0
  gi_wp2
  clear d0
  gi_loopw [14] (fun v wr => PoRel W p Gr x.1.length J v wr) (fun v _ => x.1.length - (intOf v).toNat)
  case atStart => exact ⟨0, X, Nat.zero_le _, rfl, H0.out, Nat.le_refl _⟩
  case round =>
    obtain ⟨i, Xi, hi, rfl, hJi, hsz⟩ := hrel
    by_cases hlt : i < x.1.length
    case neg =>
      obtain rfl : i = x.1.length := by omega
      have HF := Lib.hid hJi
      clear hJi hsz
      gi_wp2
      go_end0
      exact ⟨⟨_, rfl⟩, .inl ⟨Xi, HF.out⟩⟩
    obtain ⟨hP, hE⟩ := HK.out _ _ _ hJi
    obtain ⟨b, off, hAe, -, hrc⟩ := hP.at_.refs (by omega)
    obtain ⟨dr1, dr2⟩ := hrc i hlt
    have hdi := HS.out.2 i hlt
    generalize x.1[i] = ri at dr1 dr2 hdi
    have hb6 := (Below.refl wr.heap.size wr).alloc (Nat.le_refl _) (.cells #[.int .i64 ri.1, .int .i64 ri.2.1] 33)
    have hJ6 := HJ.out.2.1 _ _ _ _ hJi (Kept.below hb6)
    obtain ⟨hP6, hE6⟩ := HK.out _ _ _ hJ6
    have hsi := HS.out.1 i _ hlt hP6 hE6
    have ds := hP6.some_.at_ 0 (v := .func (.func fs) #[] sb) rfl
    have hg6 := Blk.new wr 33 #[.int .i64 ri.1, .int .i64 ri.2.1]
    have H6 := Lib.hid (And.intro hJ6 (And.intro hP6 (And.intro hg6 (Nat.le_trans hsz hb6.size))))
    subst hAe
    clear hJi hP hE hrc hb6 hJ6 hP6 hE6 hsz
    gi_wp2_with fail
    refine ⟨trivial, ?_⟩
    refine ((callsIn_wide (n := n - 1)).2 hsi).mono ?_
    rintro e w7 ⟨rfl, hb7⟩
    have hJ7 := HJ.out.2.1 _ _ _ _ H6.out.1 (Kept.below hb7)
    have hg7 := H6.out.2.2.1.below hb7 H6.out.2.2.1.lt
    have hsz7 := Nat.le_trans H6.out.2.2.2 hb7.size
    clear hsi hb7 hg6 ds dr1 dr2
    cases hp : p i
    case false =>
      have HF := Lib.hid (show PoRel W p Gr x.1.length J (.int .i64 ((i + 1 : Nat) : Int)) w7 from ⟨i + 1, Xi, hlt, rfl, by rw [titems_succ, if_neg (by rw [hp]; simp), List.append_nil]; exact hJ7, hsz7⟩)
      clear hJ7 hg7 hsz7 hp hdi H6
      gi_wp2_with fail
      go_roundw
      case rel => exact HF.out
      case measure => exact meas_up (i := i) (m := x.1.length) rfl rfl hlt
    obtain ⟨hP7, -⟩ := HK.out _ _ _ hJ7
    have htd := tdata_any hP7.grid hlen ri
    rw [hdi hp] at htd
    have dg := hP7.gp.at_ 0 (v := .pointer (some ⟨q.gg, 0, none⟩)) rfl
    have H7 := Lib.hid (And.intro hJ7 hsz7)
    have HP := Lib.hid hp
    have e1 := hg7.at_ 0 (v := .int .i64 ri.1) rfl
    have e2 := hg7.at_ 1 (v := .int .i64 ri.2.1) rfl
    clear hJ7 hsz7 hp hdi hP7 H6 hg7
    gi_wp2_with fail
    refine ⟨trivial, ?_⟩
    refine ((callsIn_wide (n := n - 1)).2 htd).mono ?_
    rintro e wt ⟨v, rows, sp, rfl, hU, hL⟩
    have hbt := hL.2 rfl
    have hJt := HJ.out.2.1 _ _ _ _ H7.out.1 (Kept.below hbt)
    have hX7 := HJ.out.1 _ _ _ H7.out.1
    obtain ⟨A5, c5, rfl, hc5, hm5, -, hlow⟩ := hU.pairs
    obtain ⟨A5', c5', e5, -, -, hrow⟩ := hU.row
    injection e5 with e51 e52 e53
    subst e51 e53
    obtain ⟨len, hlenG⟩ : ∃ len, len = (Gr i).length := ⟨_, rfl⟩
    rw [← hlenG] at hc5 ⊢
    have HR := Lib.hid (And.intro hrow (And.intro hlow (And.intro hlenG (And.intro hbt.size H7.out.2))))
    have hst : PiRel J (titems p Gr i).length len w7.heap.size wt.heap.size wt (.int .i64 0) wt := ⟨0, Xi, Nat.zero_le _, rfl, hJt, Held.refl _ _ _, fun x hx => .inl (hX7 x hx), Nat.le_refl _⟩
    have HST := Lib.hid hst
    clear htd hU hL hbt hJt hX7 hrow hlow hst e1 e2 dg hlenG
    gi_wp2_with fail
    gi_loopw [37] (fun v wr => PiRel J (titems p Gr i).length len w7.heap.size wt.heap.size wt v wr) (fun v _ => len - (intOf v).toNat)
    case atStart => exact HST.out
    case round =>
      obtain ⟨j, Xj, hj, rfl, hJj, hH, hXB, hBs⟩ := hrel
      by_cases hlj : j < len
      case neg =>
        obtain rfl : j = len := by omega
        have HF := Lib.hid (show PoRel W p Gr x.1.length J (.int .i64 ((i + 1 : Nat) : Int)) wr from ⟨i + 1, Xj, hlt, rfl, by rw [titems_succ, if_pos HP.out, List.length_append, ← HR.out.2.2.1]; exact hJj, Nat.le_trans HR.out.2.2.2.2 (Nat.le_trans HR.out.2.2.2.1 hBs)⟩)
        clear hJj hH hXB hBs
        gi_wp2_with fail
        go_roundw
        case rel => exact HF.out
        case measure => exact meas_up (i := i) (m := x.1.length) rfl rfl hlt
      obtain ⟨b5, off5, hA5, hrj⟩ := HR.out.1 (by have := HR.out.2.2.1; omega)
      have hlj' : j < (Gr i).length := by have := HR.out.2.2.1; omega
      obtain ⟨kv, vv, hcs, hPO⟩ := hrj j hlj'
      obtain ⟨hit, hkN⟩ := titems_at p Gr hlt HP.out hlj'
      generalize (Gr i)[j] = pp at hcs hPO hit
      obtain ⟨l5, h5⟩ := HR.out.2.1 _ hA5
      have hbk := hH b5 l5 h5
      have d1 := (World.cell?_of_block (a := ⟨b5, off5 + j * 3, none⟩) hbk).trans (hcs 0 kv rfl)
      have d2 := (World.cell?_of_block (a := ⟨b5, off5 + j * 3 + 1, none⟩) hbk).trans (hcs 1 vv rfl)
      have d3 := (World.cell?_of_block (a := ⟨b5, off5 + j * 3 + 2, none⟩) hbk).trans (hcs 2 (.bool pp.2.2.1) rfl)
      have hPr := hPO.held hH (Nat.le_refl _)
      obtain ⟨A6, c6, B6, e6, rfl, rfl, -⟩ := hPr.at_
      have hb10 := (Below.refl wr.heap.size wr).alloc (Nat.le_refl _) (.cells #[.slice A6 pp.1.length c6, .slice B6 pp.2.1.length e6, .bool pp.2.2.1] 40)
      have hg10 := Blk.new wr 40 #[.slice A6 pp.1.length c6, .slice B6 pp.2.1.length e6, .bool pp.2.2.1]
      have hJ10 := HJ.out.2.1 _ _ _ _ hJj (Kept.below hb10)
      have hPI : PIt (titems p Gr x.1.length) ((titems p Gr i).length + j) (wr.alloc (.cells #[.slice A6 pp.1.length c6, .slice B6 pp.2.1.length e6, .bool pp.2.2.1] 40)) #[.agg #[.slice A6 pp.1.length c6, .slice B6 pp.2.1.length e6, .bool pp.2.2.1], .int .i64 0] := ⟨pp, _, _, hit, rfl, (hPr.below hb10).base_ (Nat.zero_le _)⟩
      obtain ⟨fn, tmps, assign, body, hy, hR⟩ := HJ.out.2.2.2 _ _ _ _ hJ10 hkN hPI
      have f1 := hg10.at_ 0 (v := .slice A6 pp.1.length c6) rfl
      have f2 := hg10.at_ 1 (v := .slice B6 pp.2.1.length e6) rfl
      have f3 := hg10.at_ 2 (v := .bool pp.2.2.1) rfl
      have H10 := Lib.hid (And.intro (hH.trans (Held.below hb10 hBs)) (And.intro hXB (And.intro (Nat.le_trans hBs hb10.size) (Nat.le_trans HR.out.2.2.2.2 (Nat.le_refl _)))))
      subst hA5
      clear hJj hH hXB hBs hrj hcs hPO hPr hbk hb10 hg10 hJ10 hPI hit l5 h5
      gi_wp2_with fail
      refine hR.mono ?_
      rintro e W3 (⟨rfl, X3, hJ3, hY3, hG3⟩ | ⟨rfl, hJx3⟩)
      · have hsW : W.heap.size ≤ w7.heap.size := H10.out.2.2.2
        have hH3 := H10.out.1.trans (Held.young hY3 hsW H10.out.2.2.1 H10.out.2.1)
        have hX3 : ∀ x ∈ X3, x < w7.heap.size ∨ wt.heap.size ≤ x := fun x hx => (hG3 x hx).elim (H10.out.2.1 x) (fun h => .inr (Nat.le_trans H10.out.2.2.1 h))
        have HF := Lib.hid (show PiRel J (titems p Gr i).length len w7.heap.size wt.heap.size wt (.int .i64 ((j + 1 : Nat) : Int)) W3 from ⟨j + 1, X3, hlj, rfl, by rw [← Nat.add_assoc]; exact hJ3, hH3, hX3, Nat.le_trans H10.out.2.2.1 hY3.size⟩)
        clear hJ3 hY3 hG3 hH3 hX3 hsW hR hy f1 f2 f3 d1 d2 d3 H10
        gi_wp2_with fail
        go_roundw
        case rel => exact HF.out
        case measure => exact meas_up (i := j) (m := len) rfl rfl hlj
      · have HF := Lib.hid hJx3
        clear hJx3 hR hy f1 f2 f3 d1 d2 d3 H10
        gi_wp2_with fail
        refine bodyPost_ret (results_none rfl _ _ _) rfl ?_
        exact ⟨⟨_, rfl⟩, .inr HF.out⟩
end Go.Proofs.YtgkljncigbiffaaDoor

/- A table that stands in a grid: what is read out of it. Plain facts. No condition. -/
namespace Go.Proofs.YtgkljncigbiffaaDoor
open Go.RowKit
theorem titems_all (G : List (List PairT)) : titems (fun _ => true) (fun i => G.getD i []) G.length = G.flatten := by
  have h := flatMap_getD (fun g : List PairT => g) G
  unfold titems
  simp only [if_true]
  rw [h]
  unfold List.flatMap
  rw [List.map_id']
theorem titems_between {G : List (List PairT)} (h : GrSo G) (fr to : List UInt8) : (titems (used (G.map gkey) fr to) (fun i => G.getD i []) G.length).filter (inside fr to) = G.flatten.filter (inside fr to) := by
  rw [← between_groups h]
  unfold titems
  rw [List.filter_flatMap]
  congr 1
  funext i
  split <;> simp
theorem titems_le (p : Nat → Bool) (Gr : Nat → List PairT) : ∀ m, (titems p Gr m).length ≤ (titems (fun _ => true) Gr m).length
  | 0 => by simp [titems]
  | m + 1 => by
    have := titems_le p Gr m
    rw [titems_succ, titems_succ, List.length_append, List.length_append, if_pos rfl]
    split
    · omega
    · simp only [List.length_nil]; omega
/-- A table stands there, in these groups. -/
structure TOpen (g : Grd) (d : Dsk) (r : RefT) (G : List (List PairT)) (refs : List RefT) : Prop where
  op : topen g d none r = (0, (refs, G.map gkey), g)
  len : refs.length = G.length
  dt : ∀ i, (h : i < G.length) → tdata g d none (refs.getD i (0, 0, ())) = (0, G[i], g)
  so : GrSo G
section
variable {g : Grd} {d : Dsk} {r : RefT} {G : List (List PairT)} {refs : List RefT}
theorem TOpen.zero (h : TOpen g d r G refs) : (topen g d none r).1 = 0 := by rw [h.op]
theorem TOpen.data (h : TOpen g d r G refs) : ∀ i, (hi : i < (topen g d none r).2.1.1.length) → tdata g d none (topen g d none r).2.1.1[i] = (0, G.getD i [], g) := by
  rw [h.op]
  intro i hi
  have hi' : i < refs.length := hi
  have hg : i < G.length := by rw [← h.len]; exact hi'
  have := h.dt i hg
  rw [List.getD_eq_getElem?_getD, List.getElem?_eq_getElem hi'] at this
  rw [List.getD_eq_getElem?_getD, List.getElem?_eq_getElem hg]
  exact this
theorem TOpen.items (h : TOpen g d r G refs) : titems (fun _ => true) (fun i => G.getD i []) (topen g d none r).2.1.1.length = G.flatten := by
  rw [h.op, show (refs, List.map gkey G).fst.length = G.length from h.len]
  exact titems_all G
theorem TOpen.some_ (h : TOpen g d r G refs) (fr to : List UInt8) : (titems (used (topen g d none r).2.1.2 fr to) (fun i => G.getD i []) (topen g d none r).2.1.1.length).filter (inside fr to) = G.flatten.filter (inside fr to) := by
  rw [h.op, show (refs, List.map gkey G).fst.length = G.length from h.len]
  exact titems_between h.so fr to
theorem TOpen.few (h : TOpen g d r G refs) (p : Nat → Bool) : (titems p (fun i => G.getD i []) (topen g d none r).2.1.1.length).length ≤ G.flatten.length := by
  have := titems_le p (fun i => G.getD i []) (topen g d none r).2.1.1.length
  rw [h.items] at this
  exact this
theorem TOpen.blocks (h : TOpen g d r G refs) : tblocks g d none r = (0, r :: refs, g) := by
  unfold tblocks
  rw [h.op, if_neg (by simp)]
theorem TOpen.mono (h : TOpen g d r G refs) (key : List UInt8) : ∀ a b : Nat, a ≤ b → b < (topen g d none r).2.1.2.length → key < (topen g d none r).2.1.2.getD a [] → key < (topen g d none r).2.1.2.getD b [] := fun a b hab hb hk => by
  rw [h.op] at hb hk ⊢
  simp only [List.length_map] at hb hk ⊢
  rw [List.getD_eq_getElem?_getD, List.getElem?_map, List.getElem?_eq_getElem (by omega)] at hk
  rw [List.getD_eq_getElem?_getD, List.getElem?_map, List.getElem?_eq_getElem hb]
  exact h.so.mono key hab hb hk
theorem TOpen.get (h : TOpen g d r G refs) (key : List UInt8) : tget g d none r key = ((match pfind G.flatten key with | none => 6 | some _ => 0), (pfind G.flatten key).getD pnone, g) := by
  have hf := find_groups h.so key
  unfold tget
  rw [h.op]
  simp only
  rw [if_neg (by simp)]
  by_cases hk : kbef (G.map gkey) key = 0
  · rw [if_pos hk, hf, if_pos hk]; rfl
  · have hkl := kbef_le (G.map gkey) key
    rw [List.length_map] at hkl
    have hi : kbef (G.map gkey) key - 1 < G.length := by omega
    rw [if_neg hk, h.dt _ hi]
    simp only
    rw [if_neg (by simp), hf, if_neg hk, List.getD_eq_getElem?_getD, List.getElem?_eq_getElem hi]
    rfl
/-- Another grid's list of states, or of refs that are wanted, makes no difference. -/
theorem glook_lw {L : List Nat} {W : List RefT} {f : Option Fus} {x : RefT} : glook ⟨g.n, L, W⟩ d f x = ((glook g d f x).1, (glook g d f x).2.1, if (glook g d f x).1 = 13 then (⟨g.n, L, W⟩ : Grd).want x else ⟨g.n, L, W⟩) := by
  have ho : (⟨g.n, L, W⟩ : Grd).of x = g.of x := rfl
  unfold glook
  rw [ho]
  split
  · simp
  split
  · simp
  cases gthere d x <;> simp
theorem topen_lw {L : List Nat} {W : List RefT} {f : Option Fus} {x : RefT} (h : (topen g d f x).1 = 0) : topen ⟨g.n, L, W⟩ d f x = (0, (topen g d f x).2.1, ⟨g.n, L, W⟩) := by
  cases ho : (glook g d f x).2.1 with
  | none => rw [topen_none ho] at h; exact absurd h (glook_code.1 ho)
  | some b =>
    have hz := (glook_code.2 (by rw [ho]; simp) : (glook g d f x).1 = 0 ∧ _).1
    have ho' : (glook ⟨g.n, L, W⟩ d f x).2.1 = some b := by rw [glook_lw]; exact ho
    have hg' : (glook ⟨g.n, L, W⟩ d f x).2.2 = ⟨g.n, L, W⟩ := (glook_code.2 (by rw [ho']; simp)).2
    cases hk : kparse b.2.2.2.1 with
    | none => rw [topen_bad ho hk] at h; cases h
    | some ks =>
      rw [topen_some ho hk] at h ⊢
      rw [topen_some ho' hk, hg']
      split at h
      · rename_i hc; rw [if_pos hc, if_pos hc]
      · cases h
theorem tdata_lw {L : List Nat} {W : List RefT} {f : Option Fus} {x : RefT} (h : (tdata g d f x).1 = 0) : tdata ⟨g.n, L, W⟩ d f x = (0, (tdata g d f x).2.1, ⟨g.n, L, W⟩) := by
  cases ho : (glook g d f x).2.1 with
  | none => rw [tdata_none ho] at h; exact absurd h (glook_code.1 ho)
  | some b =>
    have ho' : (glook ⟨g.n, L, W⟩ d f x).2.1 = some b := by rw [glook_lw]; exact ho
    have hg' : (glook ⟨g.n, L, W⟩ d f x).2.2 = ⟨g.n, L, W⟩ := (glook_code.2 (by rw [ho']; simp)).2
    rw [tdata_some ho] at h ⊢
    rw [tdata_some ho', hg']
    split at h
    · rename_i hc
      rw [if_pos hc, if_pos hc]
      exact Prod.ext h rfl
    · cases h
theorem TOpen.lw {L : List Nat} {W : List RefT} (h : TOpen g d r G refs) : TOpen ⟨g.n, L, W⟩ d r G refs :=
  ⟨by rw [topen_lw h.zero, h.op], h.len, fun i hi => by rw [tdata_lw (by rw [h.dt i hi]), h.dt i hi], h.so⟩
end
/-- The table of some pairs stands there. -/
theorem table_stands {n : Nat} {s : Int} {d : Dsk} {N : Nat} {l : List PairT} (hp : (ppack l).1 = 0) (h : TWr n s ((ppack l).2.map gbody) (kbytes ((ppack l).2.map gkey)) N ((ppack l).2.length + 1) d) (hs1 : 0 ≤ s) (hs2 : s ≤ 1073741824) (hn : n ≤ 20) (hmn : (ppack l).2.length + 1 ≤ n) {g : Grd} (hg : g.n = n) :
    TOpen g d (tk s (ppack l).2.length) (ppack l).2 ((List.range (ppack l).2.length).map (tk s)) ∧ (ppack l).2.flatten = l := by
  obtain ⟨ho, hd⟩ := table_open hp h hs1 hs2 hn hmn hg
  obtain ⟨p1, p2, p3, p4, p5⟩ := ppack_ok hp
  have hG := pgroups_ok p4
  refine ⟨⟨ho, by simp, fun i hi => ?_, ?_⟩, by rw [p5]; exact hG.flat⟩
  · rw [List.getD_eq_getElem?_getD, List.getElem?_map, List.getElem?_range hi]
    exact hd i hi
  · rw [p5]
    exact ⟨by rw [hG.flat]; exact psorted_pair p3, hG.ne⟩
end Go.Proofs.YtgkljncigbiffaaDoor

/- []byte(s) of a string that is no constant. Plain facts over any program. No condition. -/
namespace Go
open Go.RowKit
theorem bytesWorld_below (w : World) (e : TypeId) (s : ByteArray) : Below w.heap.size w (Lib.bytesWorld w e s) :=
  ⟨by simp [Lib.bytesWorld, World.freeze, World.alloc, World.drew, -World.alloc_eq, -World.drew_eq], by simp [Lib.bytesWorld, World.freeze, World.alloc, World.drew, -World.alloc_eq, -World.drew_eq], by simp [Lib.bytesWorld, World.freeze, World.alloc, World.drew, -World.alloc_eq, -World.drew_eq], by rw [Lib.bytesWorld_size]; omega, fun k hk => Lib.bytesWorld_at_old w e s k hk⟩
theorem bytesWorld_bytes (w : World) (e : TypeId) (l : List UInt8) : Bytes (Lib.bytesWorld w e (str l)) (some ⟨w.heap.size, 0, none⟩) l := fun _ => ⟨w.heap.size, 0, rfl, fun j v hv => by
  rw [List.getElem?_map] at hv
  have hj : j < l.length := by
    rcases Nat.lt_or_ge j l.length with h | h
    · exact h
    · rw [List.getElem?_eq_none h] at hv; cases hv
  rw [Nat.zero_add, Lib.bytesWorld_cell w e (str l) j (by simpa [str, ByteArray.size] using hj)]
  rw [List.getElem?_eq_getElem hj] at hv
  rw [← hv]
  simp [str, List.getD, List.getElem?_eq_getElem hj, u8v, iu8]⟩
theorem wpList_str_bytes {P : Program} {w : World} {Q : Exit → Act → World → Prop} {ops : Array Oper} {rest : List Oper} {o : Oper} {a : Act} (hgd : o.guard = none) (src dst e : TypeId) (x : Operand) (ho : o.op = .convert src dst x)
    (hs : P.underlying src = some .string) (hd : P.underlying dst = some (.slice e)) (he : P.underlying e = some (.int .u8)) (l : List UInt8) (hx : a.eval x = .string (str l))
    (h : ∀ w' c, Bytes w' (some ⟨w.heap.size, 0, none⟩) l → Below w.heap.size w w' → w'.heap.size = w.heap.size + 1 → wpList P ops Q rest (a.put o.dst (.slice (some ⟨w.heap.size, 0, none⟩) l.length c)) w') : wpList P ops Q (o :: rest) a w := by
  refine wpList_plain hgd fun K hK => ?_
  unfold Oper.wp execOp
  have hr := Lib.run_convert_string_bytes (P := P) w src dst e (str l) hs hd he
  simp only [ho, hx, Sem.run_bind, hr, Result.andThen_ok, Sem.run_pure]
  have hsz : (str l).size = l.length := by simp [str, ByteArray.size]
  rw [hsz]
  exact hK _ _ (h _ _ (bytesWorld_bytes w e l) (bytesWorld_below w e (str l)) (Lib.bytesWorld_size w e (str l)))
end Go

/- The law's small calls: a ref, a grid that is made, a block that is written. Conditions: as each says. -/
namespace Go.Proofs.YtgkljncigbiffaaDoor
open Go.RowKit
end Go.Proofs.YtgkljncigbiffaaDoor

/- The tables' laws: a grid that is made, the chapter's pairs, runs that are the same. No condition. -/
namespace Go.Proofs.YtgkljncigbiffaaDoor
open Go.RowKit
set_option maxRecDepth 100000 in
set_option maxHeartbeats 2000000 in
theorem tmade_any (n : Nat) (h1 : 1 ≤ n) (h2 : n ≤ 512) (w : World) :
    Calls Tryd.prog 27 #[.int .i64 (n : Int)] w fun e w' => ∃ gp dp, e = .returned (.tuple #[.pointer (some ⟨dp, 0, none⟩), .pointer (some ⟨gp, 0, none⟩), .bool true]) ∧ GL w.heap.size w' gp dp ⟨n, List.replicate n 0, []⟩ (Dsk.new (104 + 4 * n)) ∧ Below w.heap.size w w' := by
  have hn := new_all (104 + 4 * n) (by omega) w
  have hw1 : wrap64 (4 * (n : Int)) = 4 * (n : Int) := w64_in (by omega)
  have hw2 : wrap64 (104 + 4 * (n : Int)) = 104 + 4 * (n : Int) := w64_in (by omega)
  rw [show ((104 + 4 * n : Nat) : Int) = 104 + 4 * (n : Int) by omega] at hn
  have H0 := Lib.hid (And.intro h1 h2)
  clear h1 h2
  go_enter Tryd.func27, Tryd.ntmps27
  go_wp2_with fail
  refine hn.mono ?_
  rintro e w2 ⟨p, rfl, hd, hge, hbx⟩
  have hdk : DkOk w2 p none (Dsk.new (104 + 4 * n)) none := ⟨hd, trivial, Dsk.Ok.new (by have := H0.out; omega)⟩
  have H2 := Lib.hid (And.intro hdk (And.intro hge hbx))
  clear hn hd hge hbx hdk hw1 hw2
  go_wp2_with fail
  refine (gnew_any H2.out.1 (by rfl) n H0.out.1 H0.out.2 (Nat.le_refl _)).mono ?_
  rintro e w3 ⟨q, hqp, hqf, rfl, hG, hge, hbx⟩
  have H3 := Lib.hid (And.intro hqp (And.intro hqf (And.intro hG (And.intro hge hbx))))
  clear hqp hqf hG hge hbx
  go_wp2
  go_ret3
  refine ⟨q.gg, p.gd, rfl, ⟨q, rfl, by rw [H3.out.1], H3.out.2.1, H3.out.2.2.1, fun x hx => ?_⟩, H2.out.2.2.trans (H3.out.2.2.2.2.mono H2.out.2.2.size)⟩
  have hs := H2.out.2.2.size
  have k := H3.out.2.2.2.1
  have k2 := H2.out.2.1
  rcases GPl.mem.1 hx with e | e | e | e | e
  · omega
  · omega
  · omega
  · rw [k.2.2.2] at e; cases e
  · rw [H3.out.1, H3.out.2.1] at e
    unfold Pl.all at e
    simp only [List.cons_append, List.nil_append, List.mem_cons, Option.toList_none, List.not_mem_nil, or_false] at e
    omega
/-- The chapter's pairs. -/
def abcL : List PairT := [([97], [49], false, ()), ([98], [], true, ()), ([99], [50], false, ())]
theorem PairsX.of3 {X : List Nat} {w : World} {b : Nat} {a0 a1 a2 : Addr} {c0 c1 c2 : Nat} {l : List PairT} (hl : l.length = 3) (hb : b ∉ X)
    (h0 : w.cell? ⟨b, 0, none⟩ = some (.slice (some a0) (l[0]'(by omega)).1.length c0) ∧ (l[0]'(by omega)).1.length ≤ c0 ∧ c0 ≤ 9223372036854775807 ∧ Bytes w (some a0) (l[0]'(by omega)).1 ∧ a0.block ∉ X)
    (h1 : w.cell? ⟨b, 3, none⟩ = some (.slice (some a1) (l[1]'(by omega)).1.length c1) ∧ (l[1]'(by omega)).1.length ≤ c1 ∧ c1 ≤ 9223372036854775807 ∧ Bytes w (some a1) (l[1]'(by omega)).1 ∧ a1.block ∉ X)
    (h2 : w.cell? ⟨b, 6, none⟩ = some (.slice (some a2) (l[2]'(by omega)).1.length c2) ∧ (l[2]'(by omega)).1.length ≤ c2 ∧ c2 ≤ 9223372036854775807 ∧ Bytes w (some a2) (l[2]'(by omega)).1 ∧ a2.block ∉ X) : PairsX X w (some ⟨b, 0, none⟩) l := fun i hi _ => by
  have h3 : i = 0 ∨ i = 1 ∨ i = 2 := by omega
  rcases h3 with rfl | rfl | rfl
  · exact ⟨b, 0, a0, c0, rfl, hb, h0.1, h0.2.1, h0.2.2.1, h0.2.2.2.1, h0.2.2.2.2⟩
  · exact ⟨b, 0, a1, c1, rfl, hb, h1.1, h1.2.1, h1.2.2.1, h1.2.2.2.1, h1.2.2.2.2⟩
  · exact ⟨b, 0, a2, c2, rfl, hb, h2.1, h2.2.1, h2.2.2.1, h2.2.2.2.1, h2.2.2.2.2⟩
/-- What abc answers. -/
def AbcTold (w : World) (e : Ending) (w' : World) : Prop := ∃ b : Nat, e = .returned (.slice (some ⟨b, 0, none⟩) 3 3) ∧ Pairs w' (some ⟨b, 0, none⟩) abcL ∧ (∀ X : List Nat, (∀ x ∈ X, x < w.heap.size) → PairsX X w' (some ⟨b, 0, none⟩) abcL) ∧ Below w.heap.size w w' ∧ ∃ a0 b0, w'.rangeAt b 0 [.slice (some ⟨a0, 0, none⟩) 1 1, .slice (some ⟨b0, 0, none⟩) 1 1, .bool false] ∧ PairAt w' ([97], [49], false, ()) (some ⟨a0, 0, none⟩) 1 (some ⟨b0, 0, none⟩) 1 ∧ w.heap.size ≤ a0 ∧ w.heap.size ≤ b0
set_option maxRecDepth 100000 in
set_option maxHeartbeats 2000000 in
theorem abc_any (w : World) : Calls Tryd.prog 28 #[] w (AbcTold w) := by
  have hz := zeroPairrun
  go_enter Tryd.func28, Tryd.ntmps28
  go_wp2_with (first
    | ((with_reducible show wpList _ _ _ ((⟨some 2, _, _, _, _, _⟩ : Oper) :: _) _ _); refine wpList_bytes_const (o := ⟨some 2, _, _, _, _, _⟩) (by rfl) _ _ _ (by rfl) Tryd.underlying22 Tryd.underlying5 [97] _ (by rfl) 1 (by rfl) ?_; intro w1 hb1 hk1 hsz; clear hsz)
    | ((with_reducible show wpList _ _ _ ((⟨some 4, _, _, _, _, _⟩ : Oper) :: _) _ _); refine wpList_bytes_const (o := ⟨some 4, _, _, _, _, _⟩) (by rfl) _ _ _ (by rfl) Tryd.underlying22 Tryd.underlying5 [49] _ (by rfl) 1 (by rfl) ?_; intro w2 hb2 hk2 hsz; clear hsz)
    | ((with_reducible show wpList _ _ _ ((⟨some 7, _, _, _, _, _⟩ : Oper) :: _) _ _); refine wpList_bytes_const (o := ⟨some 7, _, _, _, _, _⟩) (by rfl) _ _ _ (by rfl) Tryd.underlying22 Tryd.underlying5 [98] _ (by rfl) 1 (by rfl) ?_; intro w3 hb3 hk3 hsz; clear hsz)
    | ((with_reducible show wpList _ _ _ ((⟨some 10, _, _, _, _, _⟩ : Oper) :: _) _ _); refine wpList_bytes_const (o := ⟨some 10, _, _, _, _, _⟩) (by rfl) _ _ _ (by rfl) Tryd.underlying22 Tryd.underlying5 [99] _ (by rfl) 1 (by rfl) ?_; intro w4 hb4 hk4 hsz; clear hsz)
    | ((with_reducible show wpList _ _ _ ((⟨some 12, _, _, _, _, _⟩ : Oper) :: _) _ _); refine wpList_bytes_const (o := ⟨some 12, _, _, _, _, _⟩) (by rfl) _ _ _ (by rfl) Tryd.underlying22 Tryd.underlying5 [50] _ (by rfl) 1 (by rfl) ?_; intro w5 hb5 hk5 hsz; clear hsz)
    | fail)
  have hk2' := hk1.trans (hk2.mono hk1.size)
  have hk3' := hk2'.trans (hk3.mono hk2'.size)
  have hk4' := hk3'.trans (hk4.mono hk3'.size)
  have hk5' := hk4'.trans (hk5.mono hk4'.size)
  have hB := Blk.new w5 40 #[.slice (some ⟨w.heap.size, 0, none⟩) 1 1, .slice (some ⟨w1.heap.size, 0, none⟩) 1 1, .bool false, .slice (some ⟨w2.heap.size, 0, none⟩) 1 1, .slice none 0 0, .bool true, .slice (some ⟨w3.heap.size, 0, none⟩) 1 1, .slice (some ⟨w4.heap.size, 0, none⟩) 1 1, .bool false]
  have hx := (Below.refl w5.heap.size w5).alloc (Nat.le_refl _) (.cells #[.slice (some ⟨w.heap.size, 0, none⟩) 1 1, .slice (some ⟨w1.heap.size, 0, none⟩) 1 1, .bool false, .slice (some ⟨w2.heap.size, 0, none⟩) 1 1, .slice none 0 0, .bool true, .slice (some ⟨w3.heap.size, 0, none⟩) 1 1, .slice (some ⟨w4.heap.size, 0, none⟩) 1 1, .bool false] 40)
  have hs1 := hk1.size
  have hs2 := hk2'.size
  have hs3 := hk3'.size
  have hs4 := hk4'.size
  have hs5 := hk5'.size
  have g5 := Bytes.below hb5 hx
  have x4 := hk5.trans (hx.mono hk5.size)
  have g4 := Bytes.below hb4 x4
  have x3 := hk4.trans (x4.mono hk4.size)
  have g3 := Bytes.below hb3 x3
  have x2 := hk3.trans (x3.mono hk3.size)
  have g2 := Bytes.below hb2 x2
  have x1 := hk2.trans (x2.mono hk2.size)
  have g1 := Bytes.below hb1 x1
  have hkw := hk5'.trans (hx.mono hs5)
  have HF := Lib.hid (And.intro hB (And.intro g1 (And.intro g2 (And.intro g3 (And.intro g4 (And.intro g5 (And.intro hkw (And.intro hs1 (And.intro hs2 (And.intro hs3 (And.intro hs4 hs5)))))))))))
  clear hB hx hs1 hs2 hs3 hs4 hs5 g5 x4 g4 x3 g3 x2 g2 x1 g1 hkw hk1 hk2 hk3 hk4 hk5 hk2' hk3' hk4' hk5' hb1 hb2 hb3 hb4 hb5
  go_ret
  obtain ⟨hB, g1, g2, g3, g4, g5, hkw, hs1, hs2, hs3, hs4, hs5⟩ := HF.out
  refine ⟨w5.heap.size, rfl, fun _ => ⟨w5.heap.size, 0, rfl, by simp, fun i hi => ?_⟩, fun X hX => ?_, hkw, w.heap.size, w1.heap.size, range3 (hB.at_ 0 rfl) (hB.at_ 1 rfl) (hB.at_ 2 rfl), ⟨by decide, by decide, by decide, by decide, g1, g2⟩, Nat.le_refl _, hs1⟩
  · have h3 : i = 0 ∨ i = 1 ∨ i = 2 := by
      have : i < 3 := hi
      omega
    rcases h3 with rfl | rfl | rfl
    · exact ⟨_, 1, _, 1, hB.at_ 0 rfl, hB.at_ 1 rfl, hB.at_ 2 rfl, Nat.le_refl 1, by decide, Nat.le_refl 1, by decide, g1, g2⟩
    · exact ⟨_, 1, none, 0, hB.at_ 3 rfl, hB.at_ 4 rfl, hB.at_ 5 rfl, Nat.le_refl 1, by decide, Nat.le_refl 0, by decide, g3, Reads.nil _ _⟩
    · exact ⟨_, 1, _, 1, hB.at_ 6 rfl, hB.at_ 7 rfl, hB.at_ 8 rfl, Nat.le_refl 1, by decide, Nat.le_refl 1, by decide, g4, g5⟩
  · have off : ∀ k, w.heap.size ≤ k → k ∉ X := fun k hk hm => by have := hX k hm; omega
    exact PairsX.of3 rfl (off _ (by omega)) ⟨hB.at_ 0 rfl, by decide, by decide, g1, off _ (Nat.le_refl _)⟩ ⟨hB.at_ 3 rfl, by decide, by decide, g3, off _ (by show w.heap.size ≤ w2.heap.size; omega)⟩ ⟨hB.at_ 6 rfl, by decide, by decide, g4, off _ (by show w.heap.size ≤ w3.heap.size; omega)⟩
end Go.Proofs.YtgkljncigbiffaaDoor

/- The tables' laws: runs that are the same, and what Get answers beside what is wanted. Conditions: as each says. -/
namespace Go.Proofs.YtgkljncigbiffaaDoor
open Go.RowKit
set_option maxRecDepth 100000 in
set_option maxHeartbeats 2000000 in
theorem sameRun_eq (r : RefT) (n : Int) (F L F' L' : Option Addr) (cf cl cf' cl' : Nat) (fb lb : List UInt8) (w : World) (h1 : Bytes w F fb) (h2 : Bytes w L lb) (h3 : Bytes w F' fb) (h4 : Bytes w L' lb) :
    Calls Tryd.prog 48 #[.agg (runv r n F L fb.length cf lb.length cl), .agg (runv r n F' L' fb.length cf' lb.length cl')] w fun e w' => e = .returned (.bool true) ∧ Below w.heap.size w w' := by
  have hB := ((Below.refl w.heap.size w).alloc (Nat.le_refl _) (.cells (runv r n F L fb.length cf lb.length cl) 35)).alloc (by simp) (.cells (runv r n F' L' fb.length cf' lb.length cl') 35)
  have hg2 := (Blk.new w 35 (runv r n F L fb.length cf lb.length cl)).alloc (.cells (runv r n F' L' fb.length cf' lb.length cl') 35)
  have hg3 := Blk.new' (w.alloc (.cells (runv r n F L fb.length cf lb.length cl) 35)) 35 (runv r n F' L' fb.length cf' lb.length cl') (n := w.heap.size + 1) (by simp)
  have H0 := Lib.hid (And.intro hB (And.intro (Bytes.below h1 hB) (And.intro (Bytes.below h2 hB) (And.intro (Bytes.below h3 hB) (Bytes.below h4 hB)))))
  clear h1 h2 h3 h4 hB
  unfold runv at H0 hg2 hg3 ⊢
  have e0 := range2 (hg2.at_ 0 (v := .int .i64 r.1) rfl) (hg2.at_ 1 (v := .int .i64 r.2.1) rfl)
  have e1 := range2 (hg3.at_ 0 (v := .int .i64 r.1) rfl) (hg3.at_ 1 (v := .int .i64 r.2.1) rfl)
  have d0 := hg2.at_ 2 (v := .int .i64 n) rfl
  have d1 := hg3.at_ 2 (v := .int .i64 n) rfl
  have d2 := hg2.at_ 3 (v := .slice F fb.length cf) rfl
  have d3 := hg3.at_ 3 (v := .slice F' fb.length cf') rfl
  have d4 := hg2.at_ 4 (v := .slice L lb.length cl) rfl
  have d5 := hg3.at_ 4 (v := .slice L' lb.length cl') rfl
  clear hg2 hg3
  go_enter Tryd.func48, Tryd.ntmps48
  go_wp2_with (first
    | ((with_reducible show wpList _ _ _ ((⟨some 6, _, _, _, _, _⟩ : Oper) :: _) _ _); refine wpList_load_mid (o := ⟨some 6, _, _, _, _, _⟩) e0 (by rfl) _ _ (by rfl) (by rfl) _ Tryd.underlying33 (by rfl) size_ref (by rfl) ?_)
    | ((with_reducible show wpList _ _ _ ((⟨some 8, _, _, _, _, _⟩ : Oper) :: _) _ _); refine wpList_load_mid (o := ⟨some 8, _, _, _, _, _⟩) e1 (by rfl) _ _ (by rfl) (by rfl) _ Tryd.underlying33 (by rfl) size_ref (by rfl) ?_)
    | fail)
  refine (sameBytes_any F F' fb.length fb.length cf cf' fb fb rfl rfl _ H0.out.2.1 H0.out.2.2.2.1).mono ?_
  rintro e w2 ⟨rfl, hw⟩
  subst hw
  rw [decide_eq_true rfl]
  go_wp2_with fail
  refine (sameBytes_any L L' lb.length lb.length cl cl' lb lb rfl rfl _ H0.out.2.2.1 H0.out.2.2.2.2).mono ?_
  rintro e w2 ⟨rfl, hw⟩
  subst hw
  rw [decide_eq_true rfl]
  clear d0 d1 d2 d3 d4 d5 e0 e1
  go_wp2_with fail
  go_ret
  exact ⟨rfl, H0.out.1⟩
theorem al2 (w : World) (o o2 : Obj) : ((w.alloc o).alloc o2).heap.size = w.heap.size + 1 + 1 := by simp
set_option maxRecDepth 100000 in
set_option maxHeartbeats 1000000 in
theorem gets_any {w : World} {q : GPl} {g g2 : Grd} {d : Dsk} {f : Option Fus} (h : GridR w q g d f) (hlen : g.W.length ≤ 1099511627776) (r : RefT) (n : Int) (F L : Option Addr) (nf cf nl cl : Nat) (key : List UInt8) (_hk : key.length ≤ 5000) (p : PairT) (A B : Option Addr) (c e0 : Nat) (cd : Int)
    (hp : ∀ w', Near q.all w w' → PairAt w' p A c B e0) (hT : tget g d f r key = (cd, p, g2))
    (hmono : ∀ a b : Nat, a ≤ b → b < (topen g d f r).2.1.2.length → key < (topen g d f r).2.1.2.getD a [] → key < (topen g d f r).2.1.2.getD b []) :
    Calls Tryd.prog 29 #[.pointer (some ⟨q.gg, 0, none⟩), .agg (runv r n F L nf cf nl cl), .string (str key), .agg (pairc p A c B e0), .int .i64 cd] w fun e w' => e = .returned (.bool true) ∧ GPost w q g2 d f w' := by
  have hB := ((Below.refl w.heap.size w).alloc (Nat.le_refl _) (.cells (runv r n F L nf cf nl cl) 35)).alloc (by simp) (.cells (pairc p A c B e0) 40)
  have hg6 := (Blk.new w 35 (runv r n F L nf cf nl cl)).alloc (.cells (pairc p A c B e0) 40)
  have hg8 := Blk.new' (w.alloc (.cells (runv r n F L nf cf nl cl) 35)) 40 (pairc p A c B e0) (n := w.heap.size + 1) (by simp)
  have H0 := Lib.hid (And.intro h (And.intro hB (And.intro hg8 (And.intro hp (And.intro hT hmono)))))
  clear h hB hg8 hp hT hmono
  unfold runv pairc at H0 hg6
  unfold runv pairc
  go_enter Tryd.func29, Tryd.ntmps29
  go_wp2_with (first
    | ((with_reducible show wpList _ _ _ ((⟨some 15, _, _, _, _, _⟩ : Oper) :: _) _ _); refine wpList_load_blk (o := ⟨some 15, _, _, _, _, _⟩) (hg6) (by rfl) _ _ (by rfl) (by rfl) _ Tryd.underlying35 (by rfl) (sizeRun) (by rfl) ?_)
    | ((with_reducible show wpList _ _ _ ((⟨some 17, _, _, _, _, _⟩ : Oper) :: _) _ _); refine wpList_str_bytes (o := ⟨some 17, _, _, _, _, _⟩) (by rfl) _ _ _ _ (by rfl) Tryd.underlying9 Tryd.underlying22 Tryd.underlying5 key (by rfl) ?_; intro w1 ce hb1 hk1 hs1; clear hs1)
    | fail)
  rw [al2] at hb1
  have hbw := H0.out.2.1.trans (hk1.mono H0.out.2.1.size)
  have hg81 := H0.out.2.2.1.below hk1 H0.out.2.2.1.lt
  have hget := tget_any (H0.out.1.below hbw) hlen r n F L nf cf nl cl _ ce key hb1 H0.out.2.2.2.2.2
  rw [H0.out.2.2.2.2.1] at hget
  unfold runv at hget
  refine hget.mono ?_
  rintro e w2 ⟨kv, vv, rfl, hO, hP⟩
  obtain ⟨A2, c2, B2, e2, rfl, rfl, hA2⟩ := hO.at_
  have hg82 := hP.blk (H0.out.1.below hbw) hg81 (by decide)
  have hPw := GPost.trans1 hbw hP
  obtain ⟨q', e1, e3, e4, e5, hN, e6⟩ := hPw
  have hpw := H0.out.2.2.2.1 w2 hN
  have hb3 := (Below.refl w2.heap.size w2).alloc (Nat.le_refl _) (.cells #[.slice A2 p.1.length c2, .slice B2 p.2.1.length e2, .bool p.2.2.1] 40)
  have hg11 := Blk.new w2 40 #[.slice A2 p.1.length c2, .slice B2 p.2.1.length e2, .bool p.2.2.1]
  have hg83 := hg82.below hb3 hg82.lt
  have HP := Lib.hid (And.intro ((GPost.trans1 hbw hP).below hb3) (And.intro (hA2.below hb3) (hpw.below hb3)))
  unfold pairc at hg83
  clear hget hO hP hA2 hg82 hN hpw hb3 e5 e6 e1 e3 e4 hbw hg81 hg6
  go_wp2_with (first
    | ((with_reducible show wpList _ _ _ ((⟨some 21, _, _, _, _, _⟩ : Oper) :: _) _ _); refine wpList_load_blk (o := ⟨some 21, _, _, _, _, _⟩) (hg11) (by rfl) _ _ (by rfl) (by rfl) _ Tryd.underlying40 (by rfl) (sizePair) (by rfl) ?_)
    | ((with_reducible show wpList _ _ _ ((⟨some 22, _, _, _, _, _⟩ : Oper) :: _) _ _); refine wpList_load_blk (o := ⟨some 22, _, _, _, _, _⟩) (hg83) (by rfl) _ _ (by rfl) (by rfl) _ Tryd.underlying40 (by rfl) (sizePair) (by rfl) ?_)
    | fail)
  refine (samePair_any p p A2 B2 A B c2 e2 c e0 _ HP.out.2.1 HP.out.2.2).mono ?_
  rintro e w4 ⟨rfl, hb4⟩
  have HF := Lib.hid (HP.out.1.below hb4)
  rw [decide_eq_true rfl]
  clear hg11 hg83 hb4
  go_wp2_with fail
  go_ret
  exact ⟨rfl, HF.out⟩
end Go.Proofs.YtgkljncigbiffaaDoor

/- []byte("..") of a constant, its row laid before. Plain facts over any program. No condition. -/
namespace Go
open Go.RowKit
theorem freeze_upd (w : World) (g k : Nat) : Upd g w (w.freeze ⟨g, k, none⟩ 1) := by
  unfold World.freeze
  rw [if_neg (by decide)]
  exact ⟨rfl, rfl, rfl, by simp, fun j hj => by simp [Array.getElem?_modify, Ne.symm hj]⟩
theorem freeze_cells {w : World} {g : Nat} {t : TypeId} {cs : Array Value} (h : Blk w g t cs) (k : Nat) : (w.freeze ⟨g, k, none⟩ 1).heap[g]? = some (.cells cs t (k, k + 1)) := by
  unfold World.freeze
  rw [if_neg (by decide)]
  unfold Blk at h
  simp [Array.getElem?_modify, h]
theorem wpList_bytes_mark {P : Program} {w : World} {Q : Exit → Act → World → Prop} {ops : Array Oper} {rest : List Oper} {o : Oper} {a : Act} (hgd : o.guard = none) (t e : TypeId) (x : Operand) (ho : o.op = .convert t t x)
    (ht : P.underlying t = some (.slice e)) (he : P.underlying e = some (.int .u8)) (l : List UInt8) (n g : Nat) (hb : Blk w g e (l.map u8v).toArray) (hx : a.eval x = .slice (some ⟨g, 0, none⟩) n n)
    (h : ∀ w', Bytes w' (some ⟨g, 0, none⟩) l → Upd g w w' → wpList P ops Q rest (a.put o.dst (.slice (some ⟨g, 0, none⟩) n n)) w') : wpList P ops Q (o :: rest) a w := by
  refine wpList_plain hgd fun K hK => ?_
  unfold Oper.wp execOp
  have hsh : w.shape? g = some (e, (l.map u8v).toArray.size) := by
    unfold World.shape?
    unfold Blk at hb
    rw [hb]
  have hr : (convert t t (.slice (some ⟨g, 0, none⟩) n n)).run P w = .ok (.slice (some ⟨g, 0, none⟩) n n) (w.freeze ⟨g, (l.map u8v).toArray.size, none⟩ 1) := by
    simp [convert, run_underlying ht, run_underlying he, markStringish, hsh]
  simp only [ho, hx, Sem.run_bind, hr, Result.andThen_ok, Sem.run_pure]
  refine hK _ _ (h _ (fun _ => ⟨g, 0, rfl, fun j v hv => ?_⟩) (freeze_upd w g _))
  rw [Nat.zero_add, cell_of_row _ _ _ _ _ _ (freeze_cells hb _)]
  simpa using hv
end Go
