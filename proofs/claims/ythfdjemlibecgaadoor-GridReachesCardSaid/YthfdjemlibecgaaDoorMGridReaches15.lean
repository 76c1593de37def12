/- The refs that are reached from one on, depth first, each once. Plain facts. No condition. -/
import Derived.Test.YthfdjemlibecgaaDoorMGridReaches14
namespace Go.Proofs.YthfdjemlibecgaaDoor
/-- From a ref on: what is met, and what has been seen then. (The number bounds the depth.) -/
def dfs (kids : RefT → List RefT) : Nat → List RefT → RefT → List RefT × List RefT
  | 0, S, _ => ([], S)
  | n + 1, S, r => if r ∈ S then ([], S) else ((kids r).foldl (fun (p : List RefT × List RefT) k => (p.1 ++ (dfs kids n p.2 k).1, (dfs kids n p.2 k).2)) ([r], S ++ [r]))
/-- The same from a list on. -/
def dfss (kids : RefT → List RefT) (n : Nat) (p : List RefT × List RefT) (l : List RefT) : List RefT × List RefT :=
  l.foldl (fun p k => (p.1 ++ (dfs kids n p.2 k).1, (dfs kids n p.2 k).2)) p
theorem dfs_old {kids : RefT → List RefT} {n : Nat} {S : List RefT} {r : RefT} (h : r ∈ S) : dfs kids (n + 1) S r = ([], S) := by unfold dfs; rw [if_pos h]
theorem dfs_new {kids : RefT → List RefT} {n : Nat} {S : List RefT} {r : RefT} (h : r ∉ S) : dfs kids (n + 1) S r = dfss kids n ([r], S ++ [r]) (kids r) := by
  conv => lhs; unfold dfs
  rw [if_neg h]; rfl
theorem dfss_nil {kids : RefT → List RefT} {n : Nat} {p : List RefT × List RefT} : dfss kids n p [] = p := rfl
theorem dfss_cons {kids : RefT → List RefT} {n : Nat} {p : List RefT × List RefT} {k : RefT} {l : List RefT} : dfss kids n p (k :: l) = dfss kids n (p.1 ++ (dfs kids n p.2 k).1, (dfs kids n p.2 k).2) l := rfl
theorem dfss_pre {kids : RefT → List RefT} {n : Nat} (l : List RefT) : ∀ (A B S : List RefT), dfss kids n (A ++ B, S) l = (A ++ (dfss kids n (B, S) l).1, (dfss kids n (B, S) l).2) := by
  induction l with
  | nil => intro A B S; rfl
  | cons k l ih =>
    intro A B S
    rw [dfss_cons, dfss_cons, List.append_assoc, ih]
theorem dfs_grows {kids : RefT → List RefT} : ∀ (n : Nat) (S : List RefT) (r : RefT), ∃ T, (dfs kids n S r).2 = S ++ T
  | 0, S, r => ⟨[], by simp [dfs]⟩
  | n + 1, S, r => by
    by_cases h : r ∈ S
    · rw [dfs_old h]; exact ⟨[], by simp⟩
    · rw [dfs_new h]
      have key : ∀ (l : List RefT) (p : List RefT × List RefT), ∃ T, (dfss kids n p l).2 = p.2 ++ T := by
        intro l
        induction l with
        | nil => intro p; exact ⟨[], by simp [dfss_nil]⟩
        | cons k l ih =>
          intro p
          rw [dfss_cons]
          obtain ⟨T1, h1⟩ := dfs_grows (kids := kids) n p.2 k
          obtain ⟨T2, h2⟩ := ih (p.1 ++ (dfs kids n p.2 k).1, (dfs kids n p.2 k).2)
          rw [h2, h1]
          exact ⟨T1 ++ T2, by simp⟩
      obtain ⟨T, hT⟩ := key (kids r) ([r], S ++ [r])
      rw [hT]
      exact ⟨[r] ++ T, by simp⟩
/-- How many of a universe have not been seen. -/
def unseen (U S : List RefT) : Nat := (U.filter fun u => decide (u ∉ S)).length
theorem unseen_mono {U S T : List RefT} (h : ∀ x ∈ S, x ∈ T) : unseen U T ≤ unseen U S := by
  unfold unseen
  rw [← List.countP_eq_length_filter, ← List.countP_eq_length_filter]
  exact List.countP_mono_left fun x _ hx => by simp only [decide_eq_true_eq] at hx ⊢; exact fun hs => hx (h x hs)
theorem unseen_less {U S : List RefT} {r : RefT} (hr : r ∈ U) (h : r ∉ S) : unseen U (S ++ [r]) < unseen U S := by
  unfold unseen
  induction U with
  | nil => cases hr
  | cons x U ih =>
    rw [List.filter_cons, List.filter_cons]
    rcases List.mem_cons.1 hr with rfl | hr'
    · have h1 := unseen_mono (U := U) (S := S) (T := S ++ [r]) (fun x hx => List.mem_append_left _ hx)
      unfold unseen at h1
      simp [h]
      simp only [decide_not] at h1
      simpa using Nat.lt_succ_of_le h1
    · have := ih hr'
      by_cases hx : x ∈ S
      · simp only [List.mem_append, hx, true_or, not_true_eq_false, decide_false, Bool.false_eq_true, if_false]
        simpa using this
      · by_cases hxr : x = r
        · subst hxr
          simp [hx]
          have h1 := unseen_mono (U := U) (S := S) (T := S ++ [x]) (fun y hy => List.mem_append_left _ hy)
          unfold unseen at h1
          simpa using Nat.lt_succ_of_le h1
        · simp only [List.mem_append, hx, hxr, List.mem_singleton, or_self, not_false_eq_true, decide_true, if_true, List.length_cons]
          simpa using this
end Go.Proofs.YthfdjemlibecgaaDoor

/- A range over a function that keeps maps of its own and yields a fixed row of items. Plain facts over any program. No condition. -/
namespace Go
open Go.RowKit
section
variable {F : Fence} {n : Nat} {P : Program}
/-- The function's part: it may write what is no cells, where it came later. -/
def RowOfK (F : Fence) (n : Nat) (P : Program) (gf : Nat) (lb : Array Value) (encs : Nat → Array Value) (I : Nat → World → Prop) (N : Nat) : Prop :=
  ∀ (l : Nat) (J : Nat → World → Prop) (Jx : World → Prop) (W : World), (∀ k W, J k W → I k W) → (∀ k W1 W2, J k W1 → Kept W.heap.size W1 W2 → J k W2) → (∀ W1 W2, Jx W1 → Kept W.heap.size W1 W2 → Jx W2) →
    (∀ k W, J k W → k < N → YieldAt F (n - 1) P l (encs k) W fun e W' => (e = .returned (.bool true) ∧ J (k + 1) W') ∨ (e = .returned (.bool false) ∧ Jx W')) →
    J 0 W → CallsIn F n P gf (#[.func (.yield l) #[] #[]] ++ lb) W fun e W' => (∃ v, e = .returned v) ∧ (J N W' ∨ Jx W')
theorem Kept.refl (B : Nat) (W : World) : Kept B W W := ⟨rfl, rfl, rfl, Nat.le_refl _, fun _ _ _ => rfl, fun _ _ h _ => h⟩
theorem Kept.trans {B : Nat} {W W' W'' : World} (h : Kept B W W') (k : Kept B W' W'') : Kept B W W'' :=
  ⟨k.os.trans h.os, k.tape.trans h.tape, k.output.trans h.output, Nat.le_trans h.size k.size, fun j hj hl => (k.low j hj (Nat.lt_of_lt_of_le hl h.size)).trans (h.low j hj hl), fun j o ho hc => k.cells j o (h.cells j o ho hc) hc⟩
/-- Blocks that came later may be written as well. -/
theorem Kept.new {B g : Nat} {W W' W'' : World} (h : Kept B W W') (u : Upd g W' W'') (hg : W.heap.size ≤ g) (hB : B ≤ g) : Kept B W W'' :=
  ⟨u.os.trans h.os, u.tape.trans h.tape, u.output.trans h.output, by rw [u.size]; exact h.size, fun j hj hl => (u.block j (by omega)).trans (h.low j hj hl), fun j o ho hc => by
    have hj := (Array.getElem?_eq_some_iff.1 ho).1
    exact (u.block j (by omega)).trans (h.cells j o ho hc)⟩
/-- A map may be written. -/
theorem Kept.map {B g : Nat} {W W' : World} {es : Array MapEntry} {c : Nat} (u : Upd g W W') (hm : MapB W g es c) (hB : B ≤ g) : Kept B W W' :=
  ⟨u.os, u.tape, u.output, by rw [u.size]; exact Nat.le_refl _, fun j hj _ => u.block j (by omega), fun j o ho hc => by
    by_cases e : j = g
    · subst e
      have hm : W.heap[j]? = some (.map es c) := hm
      rw [hm] at ho; injection ho with ho; subst ho; cases hc
    · exact (u.block j e).trans ho⟩
theorem wpIn_rangeRowK {g : Operand} {ps : Array Tmp} {assign body : Code} {Q : Exit → Act → World → Prop} {a : Act} {w : World}
    (hro : F.round = none) (h1 : 1 ≤ n) {gf : Nat} {lb : Array Value} (hg : a.eval g = .func (.func gf) #[] lb) (hFg : F.fn gf) (eg : ∀ args w, (callFunc gf args).run P w = .ok (.enter gf args) w)
    (encs : Nat → Array Value) (hps : ∀ k, (encs k).size = ps.size) (N : Nat) (I : Nat → World → Prop) (Ix : Code → World → Prop)
    (hI : ∀ k W W', I k W → Kept w.heap.size W W' → I k W') (hIx : ∀ c W W', Ix c W → Kept w.heap.size W W' → Ix c W') (h0 : I 0 w)
    (hrow : RowOfK F (n - 1) P gf lb encs I N)
    (hround : ∀ l k W, w.heap.size ≤ l → l < W.heap.size → I k W → k < N → assign.wpIn (F.inRound l) (n - 1 - 1) P
      (Exit.then (fun a₁ W₁ => Below W.heap.size W W₁ ∧ ∀ W₂, Kept w.heap.size W₁ W₂ → body.wpIn (F.inRound l) (n - 1 - 1) P (rowPost w.heap.size (I (k + 1)) Ix W₂) a₁ W₂) (fun _ _ _ => False))
      { tmps := (ps.zip (encs k)).foldl (fun t (p, v) => t.setIfInBounds p v) a.tmps, defers := [] } W)
    (hdone : ∀ D W, w.heap.size ≤ D → I N W → W.heap[D]? = some (.deferred (some [])) → Q .normal { a with defers := { target := .collected D, args := #[] } :: a.defers } W)
    (hstop : ∀ D c W, w.heap.size ≤ D → Ix c W → W.heap[D]? = some (.deferred (some [])) → c.wpIn F n P Q { a with defers := { target := .collected D, args := #[] } :: a.defers } W) :
    (Code.rangeFunc g ps assign body).wpIn F n P Q a w := by
  refine wpIn_rangeFunc fun fn hfn => ?_
  rw [hro]
  -- the loop's record, in a state; the two blocks that the loop lays
  let R : LoopState → Option Code → Obj := fun st pe => .loop { state := st, pending := pe, fn, tmps := a.tmps, params := ps, assign, body, defers := w.heap.size }
  let D := w.heap.size
  let l := w.heap.size + 1
  -- what the loop needs of a world, beside the caller's own
  let Bk : LoopState → Option Code → World → Prop := fun st pe W => W.heap[l]? = some (R st pe) ∧ W.heap[D]? = some (.deferred (some []))
  have bklt : ∀ {st pe W}, Bk st pe W → l < W.heap.size := fun h => (Array.getElem?_eq_some_iff.1 h.1).1
  have bkput : ∀ {st pe W} st' pe', Bk st pe W → Bk st' pe' (W.putObj l (R st' pe')) := fun st' pe' h =>
    ⟨World.putObj_heap_same (bklt h), (World.putObj_heap_other (by show D ≠ l; omega)).trans h.2⟩
  have bkput' : ∀ {st pe W} (o : Obj), Bk st pe W → (W.putObj l o).heap[D]? = some (.deferred (some [])) := fun o h => (World.putObj_heap_other (by show D ≠ l; omega)).trans h.2
  have bkbel : ∀ {st pe W W'}, Bk st pe W → Below W.heap.size W W' → Bk st pe W' := fun h k =>
    ⟨(k.block _ (bklt h)).trans h.1, (k.block _ (by have := bklt h; omega)).trans h.2⟩
  have low : ∀ {st pe W}, Bk st pe W → w.heap.size ≤ W.heap.size := fun h => by have := bklt h; omega
  have put : ∀ {st pe W} (o : Obj), Bk st pe W → Kept w.heap.size W (W.putObj l o) := fun o h => Kept.put (by show D ≤ l; omega) h.1 rfl
  -- the world behind the loop's entry
  let W1 := (w.alloc (.deferred (some []))).alloc (R .ready none)
  have e1 : Below w.heap.size w W1 := ((Below.refl _ w).alloc (Nat.le_refl _) _).alloc (by simp) _
  have b1 : Bk .ready none W1 := by
    refine ⟨?_, ?_⟩
    · have h := World.alloc_heap_new (w.alloc (.deferred (some []))) (R .ready none)
      rwa [World.size_alloc] at h
    · exact (Below.heap_alloc _ _ _ (by rw [World.size_alloc]; exact Nat.lt_succ_self _)).trans (World.alloc_heap_new w _)
  have hW1 : W1.heap.size = w.heap.size + 2 := by show ((w.alloc _).alloc _).heap.size = _; rw [World.size_alloc, World.size_alloc]
  have kw : ∀ {W W' : World}, Kept W1.heap.size W W' → Kept w.heap.size W W' := fun k => ⟨k.os, k.tape, k.output, k.size, fun j hj h => k.low j (by omega) h, k.cells⟩
  have bkkept : ∀ {st pe W W'}, Bk st pe W → Kept W1.heap.size W W' → Bk st pe W' := fun h k =>
    ⟨(k.low _ (by rw [hW1]; show w.heap.size + 1 < _; omega) (bklt h)).trans h.1, (k.low _ (by rw [hW1]; show w.heap.size < _; omega) (by have := bklt h; omega)).trans h.2⟩
  refine ⟨l, [{ target := .collected D, args := #[] }], W1, { target := .fn (.func gf) lb, args := #[.func (.yield l) #[] #[]] }, W1, gf, #[.func (.yield l) #[] #[]] ++ lb, W1,
    run_enterLoop_outer _ _ _ _ _, ?_, ?_, ?_, fun _ => h1, ?_⟩
  · simp only [resolve, hg]
    simp [go_sem]
  · intro f' hf'
    simp [Target.leads] at hf'
    exact hf' ▸ hFg
  · simp [invoke, go_sem, eg]
  refine (hrow l (fun k W => I k W ∧ Bk .ready none W) (fun W => ∃ c, Ix c W ∧ Bk .done (some c) W) W1 (fun _ _ h => h.1)
    (fun k W W' h b => ⟨hI k W W' h.1 (kw b), bkkept h.2 b⟩) (fun W W' h b => by obtain ⟨c, hc, hb⟩ := h; exact ⟨c, hIx c W W' hc (kw b), bkkept hb b⟩) ?_ ⟨hI 0 w W1 h0 (Kept.below e1), b1⟩).mono ?_
  · -- a round
    rintro k W ⟨hi, hb⟩ hk
    refine ⟨fn, _, assign, body, run_yield hb.1 (hps k), roundIn_of_wpIn hfn ?_⟩
    refine wpIn_mono (hround l k W (by show D ≤ l; omega) (bklt hb) hi hk) ?_
    rintro e a1 W2 he
    cases e
    case normal =>
      obtain ⟨hB, hbody⟩ := he
      have hb2 := bkbel hb hB
      refine ⟨_, run_beginRound hb2.1 rfl, ?_⟩
      have hb3 := bkput .busy none hb2
      refine wpIn_mono (hbody _ (Kept.put (by show D ≤ l; omega) hb2.1 rfl)) ?_
      rintro e3 a3 W4 hp
      have fin : KeepsFrom w.heap.size (W2.putObj l (R .busy none)) W4 → Bk .busy none W4 := fun hkf => ⟨hkf.same _ _ (by show D ≤ l; omega) hb3.1 rfl, hkf.same _ _ (Nat.le_refl _) hb3.2 rfl⟩
      cases e3 with
      | normal =>
        have hb4 := fin hp.1
        exact ⟨_, _, run_endRound none hb4.1, .inl ⟨rfl, hI _ _ _ hp.2 (put _ hb4), bkput .ready none hb4⟩⟩
      | ret =>
        have hb4 := fin hp.1
        exact ⟨_, _, run_endRound (some .ret) hb4.1, .inr ⟨rfl, .ret, hIx _ _ _ hp.2 (put _ hb4), bkput .done (some .ret) hb4⟩⟩
      | exit i =>
        have hb4 := fin hp.1
        exact ⟨_, _, run_endRound (some (.exit i)) hb4.1, .inr ⟨rfl, .exit i, hIx _ _ _ hp.2 (put _ hb4), bkput .done (some (.exit i)) hb4⟩⟩
      | goto t =>
        have hb4 := fin hp.1
        exact ⟨_, _, run_endRound (some (.goto t)) hb4.1, .inr ⟨rfl, .goto t, hIx _ _ _ hp.2 (put _ hb4), bkput .done (some (.goto t)) hb4⟩⟩
      | panic ch => exact hp.elim
      | outgrown => exact hp.elim
    all_goals exact he.elim
  · -- behind the function
    rintro e W2 ⟨⟨v, rfl⟩, (⟨hi, hb⟩ | ⟨c, hc, hb⟩)⟩
    · exact ⟨none, _, run_endLoop hb.1 (by simp), hdone D _ (Nat.le_refl _) (hI _ _ _ hi (put _ hb)) (bkput' _ hb)⟩
    · exact ⟨some c, _, run_endLoop hb.1 (by simp), hstop D c _ (Nat.le_refl _) (hIx _ _ _ hc (put _ hb)) (bkput' _ hb)⟩
end
end Go

/- A range over a function that keeps blocks of its own and yields a fixed row of items: the body keeps what came since the range began. Plain facts over any program. No condition. -/
namespace Go
open Go.RowKit
section
variable {F : Fence} {n : Nat} {P : Program}
/-- What came from B on and lay there lies there, but what the body calls its own. -/
structure Young (B : Nat) (X : List Nat) (W W' : World) : Prop where
  size : W.heap.size ≤ W'.heap.size
  same : ∀ (k : Nat) (o : Obj), B ≤ k → k ∉ X → W.heap[k]? = some o → W'.heap[k]? = some o
theorem Young.near {B : Nat} {X Y : List Nat} {W W' : World} (h : Near Y W W') (hX : ∀ x ∈ Y, x < B ∨ x ∈ X) : Young B X W W' :=
  ⟨h.size, fun k _ hB hn hk => (h.block k (Array.getElem?_eq_some_iff.1 hk).1 (fun e => (hX k e).elim (fun h => by omega) hn)).trans hk⟩
theorem Young.below {B : Nat} {X : List Nat} {W W' : World} (h : Below W.heap.size W W') : Young B X W W' := ⟨h.size, fun k _ _ _ hk => (h.block k (Array.getElem?_eq_some_iff.1 hk).1).trans hk⟩
theorem Young.trans {B : Nat} {X : List Nat} {W W' W'' : World} (h : Young B X W W') (k : Young B X W' W'') : Young B X W W'' := ⟨Nat.le_trans h.size k.size, fun j o hB hX hj => k.same j o hB hX (h.same j o hB hX hj)⟩
theorem Young.mono {B B' : Nat} {X : List Nat} {W W' : World} (h : Young B X W W') (hB : B ≤ B') : Young B' X W W' := ⟨h.size, fun j o hj hX ho => h.same j o (Nat.le_trans hB hj) hX ho⟩
/-- What the body calls its own grows by what came. -/
def Grown (X X' : List Nat) (W : World) : Prop := ∀ x ∈ X', x ∈ X ∨ W.heap.size ≤ x
theorem Grown.refl (X : List Nat) (W : World) : Grown X X W := fun _ h => .inl h
theorem Grown.trans {X X' X'' : List Nat} {W W' : World} (h : Grown X X' W) (k : Grown X' X'' W') (hs : W.heap.size ≤ W'.heap.size) : Grown X X'' W := fun x hx => (k x hx).elim (h x) fun h => .inr (Nat.le_trans hs h)
theorem Grown.mono {X X' : List Nat} {W W' : World} (h : Grown X X' W') (hs : W.heap.size ≤ W'.heap.size) : Grown X X' W := fun x hx => (h x hx).imp id fun h => Nat.le_trans hs h
theorem Grown.off {X X' : List Nat} {W : World} {x : Nat} (h : Grown X X' W) (hx : x ∉ X) (hl : x < W.heap.size) : x ∉ X' := fun hm => (h x hm).elim hx fun h => by omega
theorem Young.then_ {B : Nat} {X X' : List Nat} {W W' W'' : World} (h : Young B X W W') (g : Grown X X' W) (k : Young B X' W' W'') : Young B X W W'' :=
  ⟨Nat.le_trans h.size k.size, fun j o hB hX hj => k.same j o hB (g.off hX (Array.getElem?_eq_some_iff.1 hj).1) (h.same j o hB hX hj)⟩
theorem Young.put {B : Nat} {X : List Nat} (W : World) (l : Nat) (o : Obj) (hl : l < B) : Young B X W (W.putObj l o) := Young.near (putObj_near W l o) (fun x hx => .inl (by rw [List.mem_singleton.1 hx]; exact hl))
/-- The function's part: it may write what is no cells, where it came later; the body keeps what came since, but its own. -/
def RowOfY (F : Fence) (n : Nat) (P : Program) (gf : Nat) (lb : Array Value) (encs : Nat → Array Value) (I : Nat → List Nat → World → Prop) (N : Nat) : Prop :=
  ∀ (l : Nat) (J : Nat → List Nat → World → Prop) (Jx : World → Prop) (X : List Nat) (W : World), (∀ k X W, J k X W → I k X W) → (∀ k X W, J k X W → ∀ x ∈ X, x < W.heap.size) →
    (∀ k X W1 W2, J k X W1 → Kept W.heap.size W1 W2 → J k X W2) → (∀ W1 W2, Jx W1 → Kept W.heap.size W1 W2 → Jx W2) →
    (∀ k X W1, J k X W1 → k < N → YieldAt F (n - 1) P l (encs k) W1 fun e W' => (e = .returned (.bool true) ∧ ∃ X', J (k + 1) X' W' ∧ Young W.heap.size X W1 W' ∧ Grown X X' W1) ∨ (e = .returned (.bool false) ∧ Jx W')) →
    J 0 X W → CallsIn F n P gf (#[.func (.yield l) #[] #[]] ++ lb) W fun e W' => (∃ v, e = .returned v) ∧ ((∃ X', J N X' W') ∨ Jx W')
/-- How a round's body may end. -/
def rowPostY (B : Nat) (X : List Nat) (I : List Nat → World → Prop) (Ix : Code → World → Prop) (W : World) : Exit → Act → World → Prop
  | .normal, _, W' => Young B X W W' ∧ ∃ X', I X' W' ∧ Grown X X' W
  | .ret, _, W' => Young B X W W' ∧ Ix .ret W'
  | .exit i, _, W' => Young B X W W' ∧ Ix (.exit i) W'
  | .goto t, _, W' => Young B X W W' ∧ Ix (.goto t) W'
  | .panic _, _, _ => False
  | .outgrown, _, _ => False
theorem wpIn_rangeRowY {g : Operand} {ps : Array Tmp} {assign body : Code} {Q : Exit → Act → World → Prop} {a : Act} {w : World}
    (hro : F.round = none) (h1 : 1 ≤ n) {gf : Nat} {lb : Array Value} (hg : a.eval g = .func (.func gf) #[] lb) (hFg : F.fn gf) (eg : ∀ args w, (callFunc gf args).run P w = .ok (.enter gf args) w)
    (encs : Nat → Array Value) (hps : ∀ k, (encs k).size = ps.size) (N : Nat) (I : Nat → List Nat → World → Prop) (Ix : Code → World → Prop)
    (hIX : ∀ k X W, I k X W → ∀ x ∈ X, x < W.heap.size)
    (hI : ∀ k X W W', I k X W → Kept w.heap.size W W' → I k X W') (hIx : ∀ c W W', Ix c W → Kept w.heap.size W W' → Ix c W') {X0 : List Nat} (h0 : I 0 X0 w)
    (hrow : RowOfY F (n - 1) P gf lb encs I N)
    (hround : ∀ l k X W, w.heap.size ≤ l → l < W.heap.size → I k X W → k < N → assign.wpIn (F.inRound l) (n - 1 - 1) P
      (Exit.then (fun a₁ W₁ => Below W.heap.size W W₁ ∧ ∀ W₂, Kept w.heap.size W₁ W₂ → body.wpIn (F.inRound l) (n - 1 - 1) P (rowPostY w.heap.size X (I (k + 1)) Ix W₂) a₁ W₂) (fun _ _ _ => False))
      { tmps := (ps.zip (encs k)).foldl (fun t (p, v) => t.setIfInBounds p v) a.tmps, defers := [] } W)
    (hdone : ∀ D X W, w.heap.size ≤ D → I N X W → W.heap[D]? = some (.deferred (some [])) → Q .normal { a with defers := { target := .collected D, args := #[] } :: a.defers } W)
    (hstop : ∀ D c W, w.heap.size ≤ D → Ix c W → W.heap[D]? = some (.deferred (some [])) → c.wpIn F n P Q { a with defers := { target := .collected D, args := #[] } :: a.defers } W) :
    (Code.rangeFunc g ps assign body).wpIn F n P Q a w := by
  refine wpIn_rangeFunc fun fn hfn => ?_
  rw [hro]
  -- the loop's record, in a state; the two blocks that the loop lays
  let R : LoopState → Option Code → Obj := fun st pe => .loop { state := st, pending := pe, fn, tmps := a.tmps, params := ps, assign, body, defers := w.heap.size }
  let D := w.heap.size
  let l := w.heap.size + 1
  -- what the loop needs of a world, beside the caller's own
  let Bk : LoopState → Option Code → World → Prop := fun st pe W => W.heap[l]? = some (R st pe) ∧ W.heap[D]? = some (.deferred (some []))
  have bklt : ∀ {st pe W}, Bk st pe W → l < W.heap.size := fun h => (Array.getElem?_eq_some_iff.1 h.1).1
  have bkput : ∀ {st pe W} st' pe', Bk st pe W → Bk st' pe' (W.putObj l (R st' pe')) := fun st' pe' h =>
    ⟨World.putObj_heap_same (bklt h), (World.putObj_heap_other (by show D ≠ l; omega)).trans h.2⟩
  have bkput' : ∀ {st pe W} (o : Obj), Bk st pe W → (W.putObj l o).heap[D]? = some (.deferred (some [])) := fun o h => (World.putObj_heap_other (by show D ≠ l; omega)).trans h.2
  have bkbel : ∀ {st pe W W'}, Bk st pe W → Below W.heap.size W W' → Bk st pe W' := fun h k =>
    ⟨(k.block _ (bklt h)).trans h.1, (k.block _ (by have := bklt h; omega)).trans h.2⟩
  have low : ∀ {st pe W}, Bk st pe W → w.heap.size ≤ W.heap.size := fun h => by have := bklt h; omega
  have put : ∀ {st pe W} (o : Obj), Bk st pe W → Kept w.heap.size W (W.putObj l o) := fun o h => Kept.put (by show D ≤ l; omega) h.1 rfl
  -- the world behind the loop's entry
  let W1 := (w.alloc (.deferred (some []))).alloc (R .ready none)
  have e1 : Below w.heap.size w W1 := ((Below.refl _ w).alloc (Nat.le_refl _) _).alloc (by simp) _
  have b1 : Bk .ready none W1 := by
    refine ⟨?_, ?_⟩
    · have h := World.alloc_heap_new (w.alloc (.deferred (some []))) (R .ready none)
      rwa [World.size_alloc] at h
    · exact (Below.heap_alloc _ _ _ (by rw [World.size_alloc]; exact Nat.lt_succ_self _)).trans (World.alloc_heap_new w _)
  have hW1 : W1.heap.size = w.heap.size + 2 := by show ((w.alloc _).alloc _).heap.size = _; rw [World.size_alloc, World.size_alloc]
  have kw : ∀ {W W' : World}, Kept W1.heap.size W W' → Kept w.heap.size W W' := fun k => ⟨k.os, k.tape, k.output, k.size, fun j hj h => k.low j (by omega) h, k.cells⟩
  have bkkept : ∀ {st pe W W'}, Bk st pe W → Kept W1.heap.size W W' → Bk st pe W' := fun h k =>
    ⟨(k.low _ (by rw [hW1]; show w.heap.size + 1 < _; omega) (bklt h)).trans h.1, (k.low _ (by rw [hW1]; show w.heap.size < _; omega) (by have := bklt h; omega)).trans h.2⟩
  refine ⟨l, [{ target := .collected D, args := #[] }], W1, { target := .fn (.func gf) lb, args := #[.func (.yield l) #[] #[]] }, W1, gf, #[.func (.yield l) #[] #[]] ++ lb, W1,
    run_enterLoop_outer _ _ _ _ _, ?_, ?_, ?_, fun _ => h1, ?_⟩
  · simp only [resolve, hg]
    simp [go_sem]
  · intro f' hf'
    simp [Target.leads] at hf'
    exact hf' ▸ hFg
  · simp [invoke, go_sem, eg]
  refine (hrow l (fun k X W => (I k X W ∧ Bk .ready none W) ∧ D ∉ X ∧ l ∉ X) (fun W => ∃ c, Ix c W ∧ Bk .done (some c) W) X0 W1 (fun _ _ _ h => h.1.1) (fun k X W h => hIX k X W h.1.1)
    (fun k X W W' h b => ⟨⟨hI k X W W' h.1.1 (kw b), bkkept h.1.2 b⟩, h.2⟩) (fun W W' h b => by obtain ⟨c, hc, hb⟩ := h; exact ⟨c, hIx c W W' hc (kw b), bkkept hb b⟩) ?_ ⟨⟨hI 0 X0 w W1 h0 (Kept.below e1), b1⟩, fun hm => Nat.lt_irrefl _ (hIX 0 X0 w h0 _ hm), fun hm => Nat.not_succ_lt_self (hIX 0 X0 w h0 _ hm)⟩).mono ?_
  · -- a round
    rintro k X W ⟨⟨hi, hb⟩, hDX, hlX⟩ hk
    refine ⟨fn, _, assign, body, run_yield hb.1 (hps k), roundIn_of_wpIn hfn ?_⟩
    refine wpIn_mono (hround l k X W (by show D ≤ l; omega) (bklt hb) hi hk) ?_
    rintro e a1 W2 he
    cases e
    case normal =>
      obtain ⟨hB, hbody⟩ := he
      have hb2 := bkbel hb hB
      refine ⟨_, run_beginRound hb2.1 rfl, ?_⟩
      have hb3 := bkput .busy none hb2
      refine wpIn_mono (hbody _ (Kept.put (by show D ≤ l; omega) hb2.1 rfl)) ?_
      rintro e3 a3 W4 hp
      have fin : Young w.heap.size X (W2.putObj l (R .busy none)) W4 → Bk .busy none W4 := fun hkf => ⟨hkf.same _ _ (by show D ≤ l; omega) hlX hb3.1, hkf.same _ _ (Nat.le_refl _) hDX hb3.2⟩
      cases e3 with
      | normal =>
        obtain ⟨hy, X', hi', hg⟩ := hp
        have hb4 := fin hy
        have hs2 : W2.heap.size ≤ (W2.putObj l (R .busy none)).heap.size := (Young.put (B := W1.heap.size) (X := X) W2 l (R .busy none) (by rw [hW1]; show w.heap.size + 1 < _; omega)).size
        have hg1 := hg.mono (Nat.le_trans hB.size hs2)
        exact ⟨_, _, run_endRound none hb4.1, .inl ⟨rfl, X', ⟨⟨hI _ _ _ _ hi' (put _ hb4), bkput .ready none hb4⟩, hg1.off hDX (by have := bklt hb; show w.heap.size < _; omega), hg1.off hlX (bklt hb)⟩, ((Young.below hB).trans (Young.put W2 l _ (by rw [hW1]; show w.heap.size + 1 < _; omega))).trans ((hy.mono (by rw [hW1]; omega)).trans (Young.put W4 l _ (by rw [hW1]; show w.heap.size + 1 < _; omega))), hg1⟩⟩
      | ret =>
        have hb4 := fin hp.1
        exact ⟨_, _, run_endRound (some .ret) hb4.1, .inr ⟨rfl, .ret, hIx _ _ _ hp.2 (put _ hb4), bkput .done (some .ret) hb4⟩⟩
      | exit i =>
        have hb4 := fin hp.1
        exact ⟨_, _, run_endRound (some (.exit i)) hb4.1, .inr ⟨rfl, .exit i, hIx _ _ _ hp.2 (put _ hb4), bkput .done (some (.exit i)) hb4⟩⟩
      | goto t =>
        have hb4 := fin hp.1
        exact ⟨_, _, run_endRound (some (.goto t)) hb4.1, .inr ⟨rfl, .goto t, hIx _ _ _ hp.2 (put _ hb4), bkput .done (some (.goto t)) hb4⟩⟩
      | panic ch => exact hp.elim
      | outgrown => exact hp.elim
    all_goals exact he.elim
  · -- behind the function
    rintro e W2 ⟨⟨v, rfl⟩, (⟨X, ⟨hi, hb⟩, -⟩ | ⟨c, hc, hb⟩)⟩
    · exact ⟨none, _, run_endLoop hb.1 (by simp), hdone D X _ (Nat.le_refl _) (hI _ _ _ _ hi (put _ hb)) (bkput' _ hb)⟩
    · exact ⟨some c, _, run_endLoop hb.1 (by simp), hstop D c _ (Nat.le_refl _) (hIx _ _ _ hc (put _ hb)) (bkput' _ hb)⟩
end
end Go

/- An operation that calls nothing is carried out inside a fence as outside. Plain facts over any program. No condition. -/
namespace Go
section
variable {P : Program} {ops : Array Oper} {F : Fence} {n : Nat} {Q : Exit → Act → World → Prop} {a : Act} {w : World} {rest : List Oper}
theorem wpListIn_of {o : Oper} (hc : o.op.calmB = true) (h : wpList P ops (fun e a' w' => e = .normal ∧ wpListIn F n P ops Q rest a' w') [o] a w) : wpListIn F n P ops Q (o :: rest) a w := by
  simp only [wpList] at h
  simp only [wpListIn]
  split
  · rename_i hw
    rw [if_pos hw] at h
    have h1 := h.resolve_right fun hh => by obtain ⟨_, _, hq⟩ := hh.2; cases hq.1
    unfold Oper.wp at h1
    unfold Oper.wpIn
    refine ⟨fun f hf => (by rw [calm_about hc] at hf; cases hf), ?_⟩
    rw [calm_semAt hc]
    cases hr : (execOp a.eval o).run P w with
    | ok x w' =>
      rw [hr] at h1
      rcases calm_run hc _ _ _ _ hr with ⟨v, rfl⟩ | rfl
      · exact h1.2
      · exact h1.2
    | halt x w' =>
      rw [hr] at h1
      cases x <;> first | exact absurd h1.1 (by simp) | exact h1.elim
  · rename_i hw
    rw [if_neg hw] at h
    exact ⟨fun f hf => (by rw [calm_about hc] at hf; cases hf), h.2⟩
end
end Go

/- The refs that are reached from one on: the grid's reached. Conditions: the grid is known. -/
namespace Go.Proofs.YthfdjemlibecgaaDoor
open Go.RowKit
attribute [local go_sem] Oper.semAt_some
theorem reached_any (gg : Nat) (r : RefT) (w : World) : Calls Tryd.prog 100 #[.pointer (some ⟨gg, 0, none⟩), .agg #[.int .i64 r.1, .int .i64 r.2.1]] w fun e w' => e = .returned (.func (.func 144) #[] #[.pointer (some ⟨w.heap.size, 0, none⟩), .pointer (some ⟨w.heap.size + 1, 0, none⟩)]) ∧
      w' = (w.alloc (.cells #[.pointer (some ⟨gg, 0, none⟩)] 25)).alloc (.cells #[.int .i64 r.1, .int .i64 r.2.1] 23) := by
  go_enter Tryd.func100, Tryd.ntmps100
  go_wp2
  go_ret
  exact ⟨rfl, rfl⟩
/-- What a ref names; whether it is there. -/
def gkids (g : Grd) (d : Dsk) (r : RefT) : List RefT := if g.of r = true then (match gthere d r with | some b => b.2.2.1 | none => []) else []
def gok (g : Grd) (d : Dsk) (r : RefT) : Bool := g.of r && (gthere d r).isSome
/-- The iterator's own blocks: where what was seen is kept, the grid's box, the yield's, its own. -/
structure RPl where
  gm : Nat
  bs : Nat
  bg : Nat
  by_ : Nat
  bw : Nat
  l : Nat
  ty : TypeId
  tw : TypeId
def RPl.frees (q : RPl) : Array Value := #[.pointer (some ⟨q.bs, 0, none⟩), .pointer (some ⟨q.bg, 0, none⟩), .pointer (some ⟨q.by_, 0, none⟩), .pointer (some ⟨q.bw, 0, none⟩)]
structure RFr (q : RPl) (gg : Nat) (S : List RefT) (W : World) : Prop where
  s : Blk W q.bs 93 #[.map (some q.gm)]
  g : Blk W q.bg 25 #[.pointer (some ⟨gg, 0, none⟩)]
  y : Blk W q.by_ q.ty #[.func (.yield q.l) #[] #[]]
  w : Blk W q.bw q.tw #[.func (.func 145) #[] q.frees]
  m : MapK W q.gm (fun _ : RefT => True) encRef (wantM S)
theorem RFr.below {q : RPl} {gg : Nat} {S : List RefT} {W W' : World} (h : RFr q gg S W) (k : Below W.heap.size W W') : RFr q gg S W' :=
  ⟨h.s.below k h.s.lt, h.g.below k h.g.lt, h.y.below k h.y.lt, h.w.below k h.w.lt, h.m.near (X := []) (Near.below k) List.not_mem_nil⟩
theorem RFr.young {q : RPl} {gg B : Nat} {X : List Nat} {S : List RefT} {W W' : World} (h : RFr q gg S W) (k : Young B X W W') (hg : B ≤ q.gm ∧ B ≤ q.bs ∧ B ≤ q.by_ ∧ B ≤ q.bw) (hx : q.gm ∉ X ∧ q.bs ∉ X ∧ q.by_ ∉ X ∧ q.bw ∉ X) (hb : Blk W' q.bg 25 #[.pointer (some ⟨gg, 0, none⟩)]) : RFr q gg S W' := by
  obtain ⟨es, c, h1, h2⟩ := h.m
  exact ⟨k.same _ _ hg.2.1 hx.2.1 h.s, hb, k.same _ _ hg.2.2.1 hx.2.2.1 h.y, k.same _ _ hg.2.2.2 hx.2.2.2 h.w, ⟨es, c, k.same _ _ hg.1 hx.1 h1, h2⟩⟩
end Go.Proofs.YthfdjemlibecgaaDoor

/- The refs that are reached: how the walk's list grows. Plain facts. No condition. -/
namespace Go.Proofs.YthfdjemlibecgaaDoor
theorem dfss_take {kids : RefT → List RefT} {n : Nat} {p : List RefT × List RefT} {L : List RefT} {t : Nat} (ht : t < L.length) :
    dfss kids n p (L.take (t + 1)) = ((dfss kids n p (L.take t)).1 ++ (dfs kids n (dfss kids n p (L.take t)).2 L[t]).1, (dfs kids n (dfss kids n p (L.take t)).2 L[t]).2) := by
  rw [List.take_succ_eq_append_getElem ht]
  unfold dfss
  rw [List.foldl_append]
  rfl
theorem dfss_grows {kids : RefT → List RefT} {n : Nat} (l : List RefT) : ∀ (p : List RefT × List RefT), ∃ T, (dfss kids n p l).2 = p.2 ++ T := by
  induction l with
  | nil => intro p; exact ⟨[], by simp [dfss_nil]⟩
  | cons x l ih =>
    intro p
    rw [dfss_cons]
    obtain ⟨T1, h1⟩ := dfs_grows (kids := kids) n p.2 x
    obtain ⟨T2, h2⟩ := ih (p.1 ++ (dfs kids n p.2 x).1, (dfs kids n p.2 x).2)
    rw [h2, h1]
    exact ⟨T1 ++ T2, by simp⟩
theorem dfss_pre1 {kids : RefT → List RefT} {n : Nat} (l : List RefT) : ∀ (p : List RefT × List RefT), ∃ T, (dfss kids n p l).1 = p.1 ++ T := by
  induction l with
  | nil => intro p; exact ⟨[], by simp [dfss_nil]⟩
  | cons x l ih =>
    intro p
    rw [dfss_cons]
    obtain ⟨T2, h2⟩ := ih (p.1 ++ (dfs kids n p.2 x).1, (dfs kids n p.2 x).2)
    rw [h2]
    exact ⟨(dfs kids n p.2 x).1 ++ T2, by simp⟩
/-- A part of the walk is the front of the whole. -/
theorem dfss_front {kids : RefT → List RefT} {n : Nat} {p : List RefT × List RefT} (L : List RefT) (t : Nat) : ∃ T, (dfss kids n p L).1 = (dfss kids n p (L.take t)).1 ++ T := by
  have h : dfss kids n p L = dfss kids n (dfss kids n p (L.take t)) (L.drop t) := by
    unfold dfss
    rw [← List.foldl_append, List.take_append_drop]
  rw [h]
  exact dfss_pre1 _ _
end Go.Proofs.YthfdjemlibecgaaDoor

/- The walk from one ref on: reached's inner function. Conditions: the grid is known ahead of each yield; the iterator's blocks came since. -/
namespace Go.Proofs.YthfdjemlibecgaaDoor
open Go.RowKit
attribute [local go_sem] Oper.semAt_some
theorem read_refs (raw : List UInt8) : (GB.read raw).2.2.2.1.length ≤ 16 := by
  unfold GB.read
  split
  · simp [GB.none_]
  split
  · simp [GB.none_]
  split
  · simp [GB.none_]
  split
  · rename_i h; exact (GB.ok_spec h.1).2.2.1
  · simp [GB.none_]
theorem there_refs (d : Dsk) (r : RefT) : ((gthere d r).getD GB.none_).2.2.1.length ≤ 16 := by
  unfold gthere
  split
  · exact read_refs _
  · simp [GB.none_]
/-- What came from B on and lay there lies there, but the map and what the body calls its own. -/
structure Yx (B gm : Nat) (X : List Nat) (W W' : World) : Prop where
  size : W.heap.size ≤ W'.heap.size
  same : ∀ (k : Nat) (o : Obj), B ≤ k → k ≠ gm → k ∉ X → W.heap[k]? = some o → W'.heap[k]? = some o
theorem Yx.trans {B gm : Nat} {X : List Nat} {W W' W'' : World} (h : Yx B gm X W W') (k : Yx B gm X W' W'') : Yx B gm X W W'' := ⟨Nat.le_trans h.size k.size, fun j o h1 h2 h4 h3 => k.same j o h1 h2 h4 (h.same j o h1 h2 h4 h3)⟩
theorem Yx.then_ {B gm : Nat} {X X' : List Nat} {W W' W'' : World} (h : Yx B gm X W W') (g : Grown X X' W) (k : Yx B gm X' W' W'') : Yx B gm X W W'' :=
  ⟨Nat.le_trans h.size k.size, fun j o h1 h2 h4 h3 => k.same j o h1 h2 (g.off h4 (Array.getElem?_eq_some_iff.1 h3).1) (h.same j o h1 h2 h4 h3)⟩
theorem Yx.young {B gm : Nat} {X : List Nat} {W W' : World} (h : Young B X W W') : Yx B gm X W W' := ⟨h.size, fun j o h1 _ h4 h3 => h.same j o h1 h4 h3⟩
theorem Yx.below {B gm : Nat} {X : List Nat} {W W' : World} (h : Below W.heap.size W W') : Yx B gm X W W' := Yx.young (Young.below h)
theorem Yx.map {B gm : Nat} {X : List Nat} {W W' : World} (u : Upd gm W W') : Yx B gm X W W' := ⟨by rw [u.size]; exact Nat.le_refl _, fun j o _ h2 _ h3 => (u.block j h2).trans h3⟩
theorem Yx.new {B gm g : Nat} {X : List Nat} {W W' W'' : World} (h : Yx B gm X W W') (u : Upd g W' W'') (hg : W.heap.size ≤ g) : Yx B gm X W W'' :=
  ⟨by rw [u.size]; exact h.size, fun j o h1 h2 h4 h3 => (u.block j (by have := (Array.getElem?_eq_some_iff.1 h3).1; omega)).trans (h.same j o h1 h2 h4 h3)⟩
theorem RFr.map {q : RPl} {gg : Nat} {S S' : List RefT} {W W' : World} (h : RFr q gg S W) (u : Upd q.gm W W') (hm : MapK W' q.gm (fun _ : RefT => True) encRef (wantM S')) : RFr q gg S' W' := by
  obtain ⟨es, c, h1, -⟩ := h.m
  exact ⟨h.s.upd u (h.s.offMap h1), h.g.upd u (h.g.offMap h1), h.y.upd u (h.y.offMap h1), h.w.upd u (h.w.offMap h1), hm⟩
theorem RFr.off {q : RPl} {gg x : Nat} {S : List RefT} {W W' : World} (h : RFr q gg S W) (u : Upd x W W') (h1 : q.bs < x ∧ q.bg < x ∧ q.by_ < x ∧ q.bw < x ∧ q.gm < x) : RFr q gg S W' :=
  ⟨h.s.upd u (by omega), h.g.upd u (by omega), h.y.upd u (by omega), h.w.upd u (by omega), h.m.near (Near.upd u (List.mem_singleton_self _)) (fun hm => by have := List.mem_singleton.1 hm; omega)⟩
theorem Yx.cell {B gm : Nat} {X : List Nat} {W W' : World} (k : Yx B gm X W W') {p : Addr} {v : Value} (h1 : B ≤ p.block) (h2 : p.block ≠ gm) (h3 : p.block ∉ X) (h : W.cell? p = some v) : W'.cell? p = some v := by
  unfold World.cell? at h ⊢
  split at h
  · rename_i cs t _ e
    rw [k.same _ _ h1 h2 h3 e]; exact h
  · cases h
/-- Where refs lie that the walk looks through. -/
def OffX (B gm : Nat) (X : List Nat) (W : World) (A : Option Addr) (l : List RefT) : Prop := 0 < l.length → ∀ ad, A = some ad → B ≤ ad.block ∧ ad.block ≠ gm ∧ ad.block ∉ X ∧ ad.block < W.heap.size
theorem Yx.refs {B gm : Nat} {X : List Nat} {W W' : World} (k : Yx B gm X W W') {A : Option Addr} {l : List RefT} (h : Refs W A l) (hA : OffX B gm X W A l) : Refs W' A l := fun hp => by
  obtain ⟨b, off, e, hlt, hc⟩ := h hp
  obtain ⟨h1, h2, h3, -⟩ := hA hp _ e
  exact ⟨b, off, e, Nat.lt_of_lt_of_le hlt k.size, fun i hi => ⟨k.cell (p := ⟨b, off + i * 2, none⟩) h1 h2 h3 (hc i hi).1, k.cell (p := ⟨b, off + i * 2 + 1, none⟩) h1 h2 h3 (hc i hi).2⟩⟩
theorem OffX.grown {B gm : Nat} {X X' : List Nat} {W W' : World} {A : Option Addr} {l : List RefT} (h : OffX B gm X W A l) (g : Grown X X' W) (hs : W.heap.size ≤ W'.heap.size) : OffX B gm X' W' A l := fun hp ad e => by
  obtain ⟨h1, h2, h3, h4⟩ := h hp ad e
  exact ⟨h1, h2, g.off h3 h4, Nat.lt_of_lt_of_le h4 hs⟩
/-- Ahead of each of the refs that a block names. -/
def KidRel (B gg : Nat) (q : RPl) (J : Nat → List Nat → World → Prop) (k : Nat) (kids : RefT → List RefT) (n : Nat) (p : List RefT × List RefT) (L : List RefT) (A : Option Addr) (X : List Nat) (W : World) (v : Value) (wr : World) : Prop :=
  ∃ (t : Nat) (X' : List Nat), t ≤ L.length ∧ v = .int .i64 (t : Int) ∧ J (k + (dfss kids n p (L.take t)).1.length) X' wr ∧ RFr q gg (dfss kids n p (L.take t)).2 wr ∧ Yx B q.gm X W wr ∧ Refs wr A L ∧ Grown X X' W ∧ OffX B q.gm X' wr A L
def encR (g : Grd) (d : Dsk) (items : Nat → RefT) (k : Nat) : Array Value := #[.agg #[.int .i64 (items k).1, .int .i64 (items k).2.1], .bool (gok g d (items k))]
/-- What the caller keeps ahead of each yield. -/
def GAt (gg bg : Nat) (g : Grd) (d : Dsk) (W : World) : Prop := Blk W bg 25 #[.pointer (some ⟨gg, 0, none⟩)] ∧ ∃ (Q : GPl) (g' : Grd) (f : Option Fus), GridR W Q g' d f ∧ Q.gg = gg ∧ g'.n = g.n ∧ d.isOut f = false
/-- What the walk leaves. -/
def WkPost (B gg : Nat) (q : RPl) (J : Nat → List Nat → World → Prop) (Jx : World → Prop) (k : Nat) (S : List RefT) (X : List Nat) (W : World) (e : Ending) (W' : World) : Prop :=
  (e = .returned (.bool true) ∧ ∃ X', J k X' W' ∧ RFr q gg S W' ∧ Yx B q.gm X W W' ∧ Grown X X' W) ∨ (e = .returned (.bool false) ∧ Jx W')
set_option maxRecDepth 100000 in
set_option maxHeartbeats 4000000 in
theorem rwalk_in (m : Nat) (hm : 1 ≤ m) (B gg N : Nat) (q : RPl) (g : Grd) (d : Dsk) (items : Nat → RefT) (U : List RefT) (hU : ∀ r ∈ U, ∀ x ∈ gkids g d r, x ∈ U) (J : Nat → List Nat → World → Prop) (Jx : World → Prop)
    (hI : ∀ k X W, J k X W → GAt gg q.bg g d W) (hJX : ∀ k X W, J k X W → ∀ x ∈ X, x < W.heap.size) (hJk : ∀ k X W1 W2, J k X W1 → Kept B W1 W2 → J k X W2)
    (hY : ∀ k X W1, J k X W1 → k < N → YieldAt Fence.wide (m - 1) Tryd.prog q.l (encR g d items k) W1 fun e W' => (e = .returned (.bool true) ∧ ∃ X', J (k + 1) X' W' ∧ Young B X W1 W' ∧ Grown X X' W1) ∨ (e = .returned (.bool false) ∧ Jx W'))
    (hq : B ≤ q.gm ∧ B ≤ q.bs ∧ B ≤ q.by_ ∧ B ≤ q.bw) :
    ∀ (n : Nat) (S : List RefT) (r : RefT) (k : Nat), r ∈ U → unseen U S < n → (∀ i x, (dfs (gkids g d) n S r).1[i]? = some x → items (k + i) = x) → k + (dfs (gkids g d) n S r).1.length ≤ N → ∀ X W, B ≤ W.heap.size → J k X W → RFr q gg S W → (q.gm ∉ X ∧ q.bs ∉ X ∧ q.by_ ∉ X ∧ q.bw ∉ X) →
      CallsIn Fence.wide m Tryd.prog 145 (#[.agg #[.int .i64 r.1, .int .i64 r.2.1]] ++ q.frees) W (WkPost B gg q J Jx (k + (dfs (gkids g d) n S r).1.length) (dfs (gkids g d) n S r).2 X W)
  | 0, S, r, k => fun _ h => absurd h (by omega)
  | n + 1, S, r, k => by
    intro hr hn hit hlen X W hBW hJ hF hqX
    have hbr := Blk.new W 23 #[.int .i64 r.1, .int .i64 r.2.1]
    have hB1 := (Below.refl W.heap.size W).alloc (Nat.le_refl _) (.cells #[.int .i64 r.1, .int .i64 r.2.1] 23)
    have hF1 := hF.below hB1
    have HFL := Lib.hid (And.intro hF.s.lt (And.intro hF.g.lt (And.intro hF.y.lt (And.intro hF.w.lt hF.m.lt))))
    have d1 := hF1.s.at_ 0 (v := .map (some q.gm)) rfl
    have H1 := Lib.hid (And.intro hB1 (And.intro (hJk _ _ _ _ hJ (Kept.below hB1)) hF1))
    have hXl := hJX _ _ _ hJ
    have HX := Lib.hid (And.intro hqX hXl)
    have HA := Lib.hid (And.intro hr (And.intro hn (And.intro hit (And.intro hlen hBW))))
    clear hr hn hit hlen hBW hJ hF hB1 hqX hXl
    unfold RPl.frees
    refine callsIn_of_wp Tryd.func145 rfl trivial ?_ rfl
    simp only [Tryd.ntmps145, List.size_toArray, List.length_cons, List.length_nil, Nat.reduceAdd, Nat.reduceSub, Array.replicate_succ, Array.replicate_zero, List.push_toArray, List.append_toArray, List.nil_append, List.cons_append]
    have hmp := hF1.m
    clear hF1
    by_cases hr : r ∈ S
    · have hd := dfs_old (kids := gkids g d) (n := n) hr
      rw [hd]
      clear hY hd
      gi_wp2_with (first
        | ((with_reducible show wpListIn _ _ _ _ _ ((⟨some 12, _, _, _, _, _⟩ : Oper) :: _) _ _); refine wpListIn_of (by rfl) ?_; refine wpList_load_blk (o := ⟨some 12, _, _, _, _, _⟩) (hbr) (by rfl) _ _ (by rfl) (by rfl) _ Tryd.underlying23 (by rfl) (size_ref) (by rfl) ?_; refine ⟨rfl, ?_⟩)
        | ((with_reducible show wpListIn _ _ _ _ _ ((⟨some 13, _, _, _, _, _⟩ : Oper) :: _) _ _); refine wpListIn_of (by rfl) ?_; refine wpList_lookup_k (o := ⟨some 13, _, _, _, _, _⟩) (by rfl) refKey _ 4 _ _ false (by rfl) Tryd.underlying93 hmp r trivial (.bool false) (refZero _) (by rfl) (by rfl) ?_; rw [if_neg (by decide), wantM_get, decide_eq_true hr]; refine ⟨rfl, ?_⟩)
        | fail)
      go_ret
      exact .inl ⟨rfl, X, H1.out.2.1, H1.out.2.2, Yx.below H1.out.1, Grown.refl _ _⟩
    have hd := dfs_new (kids := gkids g d) (n := n) hr
    rw [hd] at HA ⊢
    have HR := Lib.hid hr
    have hz := zeroGBrun
    clear hd
    gi_wp2_with (first
      | ((with_reducible show wpListIn _ _ _ _ _ ((⟨some 12, _, _, _, _, _⟩ : Oper) :: _) _ _); refine wpListIn_of (by rfl) ?_; refine wpList_load_blk (o := ⟨some 12, _, _, _, _, _⟩) (hbr) (by rfl) _ _ (by rfl) (by rfl) _ Tryd.underlying23 (by rfl) (size_ref) (by rfl) ?_; refine ⟨rfl, ?_⟩)
      | ((with_reducible show wpListIn _ _ _ _ _ ((⟨some 13, _, _, _, _, _⟩ : Oper) :: _) _ _); refine wpListIn_of (by rfl) ?_; refine wpList_lookup_k (o := ⟨some 13, _, _, _, _, _⟩) (by rfl) refKey _ 4 _ _ false (by rfl) Tryd.underlying93 hmp r trivial (.bool false) (refZero _) (by rfl) (by rfl) ?_; rw [if_neg (by decide), wantM_get, decide_eq_false hr]; refine ⟨rfl, ?_⟩)
      | ((with_reducible show wpListIn _ _ _ _ _ ((⟨some 15, _, _, _, _, _⟩ : Oper) :: _) _ _); refine wpListIn_of (by rfl) ?_; refine wpList_load_blk (o := ⟨some 15, _, _, _, _, _⟩) (hbr) (by rfl) _ _ (by rfl) (by rfl) _ Tryd.underlying23 (by rfl) (size_ref) (by rfl) ?_; refine ⟨rfl, ?_⟩)
      | ((with_reducible show wpListIn _ _ _ _ _ ((⟨none, _, _, _, _, _⟩ : Oper) :: _) _ _); refine wpListIn_of (by rfl) ?_; refine wpList_mapUpdate_k (o := ⟨none, _, _, _, _, _⟩) (by rfl) refKey _ 4 _ _ _ (by rfl) Tryd.underlying93 hmp r trivial (.bool true) (by rfl) (by rfl) (by rfl) ?_; intro w2 hm2 hu2; rw [wantM_put S r HR.out] at hm2; have hbel := (Below.refl w2.heap.size w2).alloc (Nat.le_refl _) (.cells #[.int .i64 0, .int .i64 0, .int .i64 0, .slice none 0 0, .slice none 0 0] 46); have hF2 := H1.out.2.2.map hu2 hm2; have hF3 := hF2.below hbel; have d3 := hF3.g.at_ 0 (v := .pointer (some ⟨gg, 0, none⟩)) rfl; have hneq : W.heap.size ≠ q.gm := fun e => hbr.offMap (Classical.choose_spec (Classical.choose_spec H1.out.2.2.m)).1 e; have hbr2 := hbr.upd hu2 hneq; have hbr3 := hbr2.below hbel hbr2.lt; have hJ2 := hJk _ _ _ _ H1.out.2.1 (Kept.map hu2 (Classical.choose_spec (Classical.choose_spec H1.out.2.2.m)).1 hq.1); have hJ3 := hJk _ _ _ _ hJ2 (Kept.below hbel); have hzb := Blk.new w2 46 #[.int .i64 0, .int .i64 0, .int .i64 0, .slice none 0 0, .slice none 0 0]; have H3 := Lib.hid (And.intro hF3 (And.intro hJ3 (And.intro hbr3 (And.intro hzb (And.intro (Nat.le_trans H1.out.1.size (Nat.le_of_eq hu2.size.symm)) (And.intro (((Yx.below H1.out.1 : Yx B q.gm X W _).trans (Yx.map hu2)).trans (Yx.below hbel)) (And.intro ((Kept.map hu2 (Classical.choose_spec (Classical.choose_spec H1.out.2.2.m)).1 hq.1).trans (Kept.below hbel)) (Nat.le_of_eq hu2.size.symm)))))))); clear hzb hF2 hF3 hbr2 hJ2 hJ3 hm2 hu2 hbel hneq; refine ⟨rfl, ?_⟩)
      | ((with_reducible show wpListIn _ _ _ _ _ ((⟨some 17, _, _, _, _, _⟩ : Oper) :: _) _ _); refine wpListIn_of (by rfl) ?_; refine wpList_load_blk (o := ⟨some 17, _, _, _, _, _⟩) (hbr3) (by rfl) _ _ (by rfl) (by rfl) _ Tryd.underlying23 (by rfl) (size_ref) (by rfl) ?_; refine ⟨rfl, ?_⟩)
      | fail)
    generalize (w2.alloc (.cells #[.int .i64 0, .int .i64 0, .int .i64 0, .slice none 0 0, .slice none 0 0] 46)) = w3 at H3 hbr3 d3 ⊢
    generalize w2.heap.size = gB at H3 ⊢
    clear hbr hmp hz d1 hbr3 d3
    obtain ⟨-, Q, g', f, hG, hgg, hn, ho⟩ := hI _ _ _ H3.out.2.1
    have hof := gof_any hG r
    rw [hgg, show g'.of r = g.of r by unfold Grd.of; rw [hn]] at hof
    have HG := Lib.hid (And.intro hG (And.intro hgg (And.intro hn ho)))
    clear hG hgg hn ho
    refine ⟨trivial, ?_⟩
    refine ((callsIn_wide (n := m - 1)).2 hof).mono ?_
    rintro e w4 ⟨rfl, hbx⟩
    have H4 := Lib.hid (And.intro (H3.out.1.below hbx) (And.intro (hJk _ _ _ _ H3.out.2.1 (Kept.below hbx)) (And.intro (H3.out.2.2.1.below hbx H3.out.2.2.1.lt) (And.intro (H3.out.2.2.2.1.below hbx H3.out.2.2.2.1.lt) (And.intro H3.out.2.2.2.2.1 (And.intro (H3.out.2.2.2.2.2.1.trans (Yx.below hbx)) (And.intro (H3.out.2.2.2.2.2.2.1.trans (Kept.below hbx)) H3.out.2.2.2.2.2.2.2)))))))
    clear hof hbx
    by_cases hof : g.of r = true
    case neg =>
      have hof' : g.of r = false := by simpa using hof
      have hk0 : gkids g d r = [] := if_neg hof
      have hok0 : gok g d r = false := by unfold gok; rw [hof']; rfl
      rw [hof']
      rw [hk0] at HA
      have hit0 : items k = r := HA.out.2.2.1 0 r rfl
      have hkN : k < N := by have := HA.out.2.2.2.1; simp only [dfss_nil, List.length_singleton] at this; omega
      obtain ⟨fn, tmps, assign, body, hy, hR⟩ := hY k X w4 H4.out.2.1 hkN
      simp only [encR, hit0, hok0] at hy
      have d5 := H4.out.1.y.at_ 0 (v := .func (.yield q.l) #[] #[]) rfl
      have hbr5 := H4.out.2.2.1
      clear hof hof' hok0 HG
      gi_wp2_with (first
        | ((with_reducible show wpListIn _ _ _ _ _ ((⟨some 27, _, _, _, _, _⟩ : Oper) :: _) _ _); refine wpListIn_of (by rfl) ?_; refine wpList_load_blk (o := ⟨some 27, _, _, _, _, _⟩) (hbr5) (by rfl) _ _ (by rfl) (by rfl) _ Tryd.underlying23 (by rfl) (size_ref) (by rfl) ?_; refine ⟨rfl, ?_⟩)
        | fail)
      refine hR.mono ?_
      clear hR hy hbr5 d5 hit0
      rintro e W5 (⟨rfl, X5, hJ5, hy5, hg5⟩ | ⟨rfl, hJx⟩)
      · have hB := HA.out.2.2.2.2
        have hz5 : Blk W5 gB 46 #[.int .i64 0, .int .i64 0, .int .i64 0, .slice none 0 0, .slice none 0 0] := hy5.same _ _ (Nat.le_trans hB H4.out.2.2.2.2.1) (fun hm => by have := HX.out.2 _ hm; have := H4.out.2.2.2.2.1; omega) H4.out.2.2.2.1
        have hF5 := H4.out.1.young hy5 hq HX.out.1 (hI _ _ _ hJ5).1
        have d6 := hz5.at_ 3 (v := .slice none 0 0) rfl
        have H5 := Lib.hid (And.intro hF5 (And.intro hJ5 (And.intro (H4.out.2.2.2.2.2.1.trans (Yx.young hy5)) (hg5.mono H4.out.2.2.2.2.2.1.size))))
        clear hz5 hF5 hJ5 hy5 hB hg5
        gi_wp2
        gi_loopw [34] (fun v wr => v = .int .i64 0 ∧ wr = W5) (fun _ _ => 0)
        case atStart => exact ⟨rfl, rfl⟩
        case round =>
          obtain ⟨rfl, rfl⟩ := hrel
          gi_wp2
          go_ret
          exact .inl ⟨rfl, X5, by rw [hk0]; exact H5.out.2.1, by rw [hk0]; exact H5.out.1, H5.out.2.2⟩
      · gi_wp2
        go_ret
        exact .inr ⟨rfl, hJx⟩
    have hok0 : gok g d r = (gthere d r).isSome := by unfold gok; rw [hof]; rfl
    have hk0 : gkids g d r = ((gthere d r).getD GB.none_).2.2.1 := by
      unfold gkids; rw [if_pos hof]
      cases gthere d r <;> rfl
    rw [hof]
    rw [hk0] at HA
    have d5 := H4.out.1.g.at_ 0 (v := .pointer (some ⟨gg, 0, none⟩)) rfl
    have hbr5 := H4.out.2.2.1
    have HU := Lib.hid (And.intro hU (And.intro hof (And.intro hok0 hk0)))
    clear hof hok0 hk0 hU HG
    gi_wp2_with (first
      | ((with_reducible show wpListIn _ _ _ _ _ ((⟨some 21, _, _, _, _, _⟩ : Oper) :: _) _ _); refine wpListIn_of (by rfl) ?_; refine wpList_load_blk (o := ⟨some 21, _, _, _, _, _⟩) (hbr5) (by rfl) _ _ (by rfl) (by rfl) _ Tryd.underlying23 (by rfl) (size_ref) (by rfl) ?_; refine ⟨rfl, ?_⟩)
      | fail)
    obtain ⟨-, Q, g', f, hG, hgg, hn, ho⟩ := hI _ _ _ H4.out.2.1
    have hgt := gthere_any hG ho r (by have := HU.out.2.1; unfold Grd.of at this ⊢; rw [hn]; exact this)
    rw [hgg] at hgt
    refine ⟨trivial, ?_⟩
    refine ((callsIn_wide (n := m - 1)).2 hgt).mono ?_
    rintro e w5 ⟨v1, v2, rfl, hTo, hbx⟩
    obtain ⟨A, c, BB, e1, C, rfl, rfl, hr5, -, -, -, -, -, hA, -⟩ := hTo
    have H5 := Lib.hid (And.intro (H4.out.1.below hbx) (And.intro (hJk _ _ _ _ H4.out.2.1 (Kept.below hbx)) (And.intro (H4.out.2.2.1.below hbx H4.out.2.2.1.lt) (And.intro (H4.out.2.2.2.1.below hbx H4.out.2.2.2.1.lt) (And.intro H4.out.2.2.2.2.1 (And.intro (H4.out.2.2.2.2.2.1.trans (Yx.below hbx)) (And.intro (H4.out.2.2.2.2.2.2.1.trans (Kept.below hbx)) (And.intro H4.out.2.2.2.2.2.2.2 (And.intro hr5 (fun ad e => Nat.lt_of_lt_of_le H4.out.2.2.2.1.lt (hA ad e)))))))))))
    have hz5 := H5.out.2.2.2.1
    clear hgt hbx hr5 hA hG hgg hn ho d5 hbr5 H4 H3
    have HSZ := Lib.hid (show B ≤ gB from Nat.le_trans HA.out.2.2.2.2 H5.out.2.2.2.2.1)
    have hit0 : items k = r := by
      obtain ⟨T, hT⟩ := dfss_pre1 (kids := gkids g d) (n := n) ((gthere d r).getD GB.none_).2.2.1 ([r], S ++ [r])
      exact HA.out.2.2.1 0 r (by rw [hT]; rfl)
    have hkN : k < N := by
      obtain ⟨T, hT⟩ := dfss_pre1 (kids := gkids g d) (n := n) ((gthere d r).getD GB.none_).2.2.1 ([r], S ++ [r])
      have := HA.out.2.2.2.1
      rw [hT] at this
      simp only [List.length_append, List.length_singleton] at this
      omega
    have HY := Lib.hid (And.intro hit0 hkN)
    have hY0 := Lib.hid hY
    clear hit0 hkN hY
    have hbk : Blk w5 gB 46 #[.int .i64 0, .int .i64 0, .int .i64 0, .slice none 0 0, .slice none 0 0] := hz5
    have hb16 := there_refs d r
    generalize hoS : (gthere d r).isSome = oS at HU ⊢
    generalize hoB : (gthere d r).getD GB.none_ = b at HA HU H5 hb16 ⊢
    generalize (if oS = true then gblk d r.fst else []).length = nC
    clear hz5 hoS hoB
    have hyy := H5.out.1.y
    have hrr := H5.out.2.2.1
    gi_wp2_with (first
      | ((with_reducible show wpListIn _ _ _ _ _ ((⟨none, _, _, _, _, _⟩ : Oper) :: _) _ _); refine wpListIn_of (by rfl) ?_; refine wpList_store_blk (o := ⟨none, _, _, _, _, _⟩) (hbk) (by rfl) _ _ _ (by rfl) (by rfl) (gbc b A c BB e1) (by rfl) (sizeGB) (by rfl) (by rfl) (gbc_one _ _ _ _ _) ?_; intro w6 h6 hu6; have hF6 : RFr q gg (S ++ [r]) w6 := H5.out.1.off hu6 ⟨Nat.lt_of_lt_of_le HFL.out.1 H5.out.2.2.2.2.1, Nat.lt_of_lt_of_le HFL.out.2.1 H5.out.2.2.2.2.1, Nat.lt_of_lt_of_le HFL.out.2.2.1 H5.out.2.2.2.2.1, Nat.lt_of_lt_of_le HFL.out.2.2.2.1 H5.out.2.2.2.2.1, Nat.lt_of_lt_of_le HFL.out.2.2.2.2 H5.out.2.2.2.2.1⟩; have d6 := hF6.y.at_ 0 (v := .func (.yield q.l) #[] #[]) rfl; have hbr6 : Blk w6 W.heap.size 23 #[.int .i64 r.1, .int .i64 r.2.1] := hrr.near (Near.upd hu6 (List.mem_singleton_self _)) (fun hm => hrr.apart hbk (by decide) (List.mem_singleton.1 hm)); have hJ6 := hJk _ _ _ _ H1.out.2.1 (H5.out.2.2.2.2.2.2.1.new hu6 H5.out.2.2.2.2.2.2.2.1 HSZ.out); have H6 := Lib.hid (And.intro hF6 (And.intro hJ6 (And.intro hbr6 (And.intro h6 (And.intro (H5.out.2.2.2.2.2.1.new hu6 H5.out.2.2.2.2.1) (Refs.near H5.out.2.2.2.2.2.2.2.2.1 (Near.upd hu6 (List.mem_singleton_self _)) (fun ad e hm => by have h1 := H5.out.2.2.2.2.2.2.2.2.2 ad e; have h2 := List.mem_singleton.1 hm; omega))))))); obtain ⟨fn, tmps, assign, body, hy, hR⟩ := hY0.out k X w6 hJ6 HY.out.2; simp only [encR, HY.out.1, HU.out.2.2.1] at hy; clear hF6 hJ6 h6 hu6 hyy hrr hbk; refine ⟨rfl, ?_⟩)
      | ((with_reducible show wpListIn _ _ _ _ _ ((⟨some 27, _, _, _, _, _⟩ : Oper) :: _) _ _); refine wpListIn_of (by rfl) ?_; refine wpList_load_blk (o := ⟨some 27, _, _, _, _, _⟩) (hbr6) (by rfl) _ _ (by rfl) (by rfl) _ Tryd.underlying23 (by rfl) (size_ref) (by rfl) ?_; refine ⟨rfl, ?_⟩)
      | fail)
    refine hR.mono ?_
    clear hR hy hbr6 d6
    rintro e W7 (⟨rfl, X7, hJ7, hy7, hg7⟩ | ⟨rfl, hJx⟩)
    case inr =>
      gi_wp2
      go_ret
      exact .inr ⟨rfl, hJx⟩
    have hB := HA.out.2.2.2.2
    have hz7 : Blk W7 gB 46 (gbc b A c BB e1) := hy7.same _ _ HSZ.out (fun hm => by have := HX.out.2 _ hm; have := H5.out.2.2.2.2.1; omega) H6.out.2.2.2.1
    have hF7 := H6.out.1.young hy7 hq HX.out.1 (hI _ _ _ hJ7).1
    have d7 := hz7.at_ 3 (v := .slice A b.2.2.1.length c) rfl
    have H7 := Lib.hid (And.intro hF7 (And.intro hJ7 (And.intro hz7 (H6.out.2.2.2.2.1.trans (Yx.young hy7)))))
    clear hz7 hF7 hJ7 hB
    have hAB : OffX B q.gm X w6 A b.2.2.1 := fun hp ad e => by
      obtain ⟨b', off', e', hlt', -⟩ := H6.out.2.2.2.2.2 hp
      have h1 := H5.out.2.2.2.2.2.2.2.2.2 ad e
      have h2 := HSZ.out
      have h3 := HFL.out.2.2.2.2
      have h4 := H5.out.2.2.2.2.1
      have h5 : b' = ad.block := by rw [e] at e'; injection e' with e'; rw [e']
      exact ⟨by omega, by omega, fun hm => by have := HX.out.2 _ hm; omega, by omega⟩
    have hrf7 : Refs W7 A b.2.2.1 := (Yx.young (gm := q.gm) hy7).refs H6.out.2.2.2.2.2 hAB
    replace hAB := hAB.grown hg7 hy7.size
    have HG7 := Lib.hid (hg7.mono (W := W) H6.out.2.2.2.2.1.size)
    clear hg7
    have HRF := Lib.hid (And.intro hrf7 hAB)
    clear hrf7 hAB
    gi_wp2
    gi_loopw [34] (fun v wr => KidRel B gg q J k (gkids g d) n ([r], S ++ [r]) b.2.2.1 A X W v wr) (fun v _ => b.2.2.1.length - (intOf v).toNat)
    case atStart => exact ⟨0, X7, Nat.zero_le _, rfl, H7.out.2.1, H7.out.1, H7.out.2.2.2, HRF.out.1, HG7.out, HRF.out.2⟩
    case round =>
      obtain ⟨t, X8, ht, rfl, hJt, hFt, hYt, hRt, hGt, hOt⟩ := hrel
      by_cases hlt : t < b.2.2.1.length
      · obtain ⟨bb, off, rfl, -, hcs⟩ := hRt (by omega)
        obtain ⟨d1, d2⟩ := hcs t hlt
        obtain ⟨x, hx⟩ : ∃ x : RefT, x = b.2.2.1[t] := ⟨_, rfl⟩
        rw [← hx] at d1 d2
        have dw := hFt.w.at_ 0 (v := .func (.func 145) #[] q.frees) rfl
        unfold RPl.frees at dw
        have hbel := (Below.refl wr.heap.size wr).alloc (Nat.le_refl _) (.cells #[.int .i64 x.1, .int .i64 x.2.1] 23)
        have hbx := Blk.new wr 23 #[.int .i64 x.1, .int .i64 x.2.1]
        have dw2 := (hbel.cell (World.block_lt_of_cell? wr _ dw)).trans dw
        have HT := Lib.hid (And.intro hx (And.intro hJt (And.intro hFt (And.intro hYt (And.intro hRt (And.intro hbel (And.intro hGt hOt)))))))
        clear hx hJt hFt hYt hRt hcs hbel dw hGt hOt
        have hS : unseen U (dfss (gkids g d) n ([r], S ++ [r]) (b.2.2.1.take t)).2 < n := by
          obtain ⟨T, hT⟩ := dfss_grows (kids := gkids g d) (n := n) (b.2.2.1.take t) ([r], S ++ [r])
          rw [hT]
          have h1 := unseen_mono (U := U) (S := S ++ [r]) (T := S ++ [r] ++ T) (fun y hy => List.mem_append_left _ hy)
          have h2 := unseen_less HA.out.1 HR.out
          have h3 := HA.out.2.1
          show unseen U (S ++ [r] ++ T) < n
          omega
        have htk := dfss_take (kids := gkids g d) (n := n) (p := ([r], S ++ [r])) hlt
        rw [← HT.out.1] at htk
        obtain ⟨T', hT'⟩ := dfss_front (kids := gkids g d) (n := n) (p := ([r], S ++ [r])) b.2.2.1 (t + 1)
        rw [htk] at hT'
        have hlen' := HA.out.2.2.2.1
        have hit' := HA.out.2.2.1
        rw [hT'] at hlen' hit'
        simp only [List.length_append] at hlen'
        have ih := rwalk_in m hm B gg N q g d items U HU.out.1 J Jx hI hJX hJk hY0.out hq n (dfss (gkids g d) n ([r], S ++ [r]) (b.2.2.1.take t)).2 x (k + (dfss (gkids g d) n ([r], S ++ [r]) (b.2.2.1.take t)).1.length)
          (HU.out.1 r HA.out.1 x (by rw [HU.out.2.2.2, HT.out.1]; exact List.getElem_mem hlt)) hS
          (fun i y hy => by
            rw [Nat.add_assoc]
            refine hit' _ y ?_
            rw [List.append_assoc, List.getElem?_append_right (by omega), Nat.add_sub_cancel_left, List.getElem?_append_left (by rcases Nat.lt_or_ge i (dfs (gkids g d) n (dfss (gkids g d) n ([r], S ++ [r]) (b.2.2.1.take t)).2 x).1.length with h | h; exact h; rw [List.getElem?_eq_none h] at hy; cases hy)]
            exact hy)
          (by omega) X8 (wr.alloc (.cells #[.int .i64 x.1, .int .i64 x.2.1] 23)) (Nat.le_trans HA.out.2.2.2.2 (Nat.le_trans HT.out.2.2.2.1.size HT.out.2.2.2.2.2.1.size)) (hJk _ _ _ _ HT.out.2.1 (Kept.below HT.out.2.2.2.2.2.1)) (HT.out.2.2.1.below HT.out.2.2.2.2.2.1)
          ⟨HT.out.2.2.2.2.2.2.1.off HX.out.1.1 HFL.out.2.2.2.2, HT.out.2.2.2.2.2.2.1.off HX.out.1.2.1 HFL.out.1, HT.out.2.2.2.2.2.2.1.off HX.out.1.2.2.1 HFL.out.2.2.1, HT.out.2.2.2.2.2.2.1.off HX.out.1.2.2.2 HFL.out.2.2.2.1⟩
        have HTK := Lib.hid htk
        clear hS htk hT' hlen' hit'
        unfold RPl.frees at ih
        gi_wp2_with fail
        refine ⟨trivial, ?_⟩
        refine ((callsIn_wide (n := m - 1)).2 ((callsIn_wide (n := m)).1 ih)).mono ?_
        rintro e W9 (⟨rfl, X9, hJ9, hF9, hY9, hG9⟩ | ⟨rfl, hJx⟩)
        · have hYw := (Yx.below (B := B) (gm := q.gm) (X := X8) HT.out.2.2.2.2.2.1).trans hY9
          have hG9' := hG9.mono HT.out.2.2.2.2.2.1.size
          have H9 := Lib.hid (And.intro hJ9 (And.intro hF9 (And.intro (HT.out.2.2.2.1.then_ HT.out.2.2.2.2.2.2.1 hYw) (And.intro (hYw.refs HT.out.2.2.2.2.1 HT.out.2.2.2.2.2.2.2) (And.intro (HT.out.2.2.2.2.2.2.1.trans hG9' HT.out.2.2.2.1.size) (HT.out.2.2.2.2.2.2.2.grown hG9' hYw.size))))))
          clear hJ9 hF9 hY9 hYw ih d1 d2 dw2 hbx hG9 hG9'
          gi_wp2
          go_roundw
          case rel => exact ⟨t + 1, X9, hlt, by go_num, by rw [HTK.out, List.length_append, ← Nat.add_assoc]; exact H9.out.1, by rw [HTK.out]; exact H9.out.2.1, H9.out.2.2⟩
          case measure => simp [intOf]; omega
        · gi_wp2
          go_ret
          exact .inr ⟨rfl, hJx⟩
      · obtain rfl : t = b.2.2.1.length := by omega
        rw [List.take_length] at hJt hFt
        have H8 := Lib.hid (And.intro hJt (And.intro hFt (And.intro hYt hGt)))
        clear hJt hFt hYt hRt hGt hOt
        gi_wp2
        go_ret
        exact .inl ⟨rfl, X8, by rw [HU.out.2.2.2]; exact H8.out.1, by rw [HU.out.2.2.2]; exact H8.out.2.1, H8.out.2.2⟩
end Go.Proofs.YthfdjemlibecgaaDoor

/- Which refs are reached from one on, and are not there. Plain facts. No condition. -/
namespace Go.Proofs.YthfdjemlibecgaaDoor
open Go.RowKit
/-- All refs that a walk may meet. -/
def gall (g : Grd) (d : Dsk) (root : RefT) : List RefT := root :: (List.range g.n).flatMap fun i : Nat => (GB.read (gblk d ((i : Int) + 1))).2.2.2.1
theorem gall_kids {g : Grd} {d : Dsk} {root r : RefT} : ∀ x ∈ gkids g d r, x ∈ gall g d root := by
  intro x hx
  unfold gkids at hx
  split at hx
  · rename_i ho
    obtain ⟨h1, h2, -⟩ := Grd.of_spec ho
    split at hx
    · rename_i b hb
      unfold gthere at hb
      split at hb
      · injection hb with hb
        subst hb
        refine List.mem_cons_of_mem _ (List.mem_flatMap.2 ⟨(r.1 - 1).toNat, List.mem_range.2 (by omega), ?_⟩)
        rw [show (((r.1 - 1).toNat : Int) + 1) = r.1 by omega]
        exact hx
      · cases hb
    · cases hx
  · cases hx
theorem gall_len (g : Grd) (d : Dsk) (root : RefT) : (gall g d root).length ≤ 1 + 16 * g.n := by
  have key : ∀ L : List Nat, (L.flatMap fun i : Nat => (GB.read (gblk d ((i : Int) + 1))).2.2.2.1).length ≤ 16 * L.length := by
    intro L
    induction L with
    | nil => simp
    | cons i L ih =>
      rw [List.flatMap_cons, List.length_append, List.length_cons]
      have := read_refs (gblk d ((i : Int) + 1))
      omega
  have := key (List.range g.n)
  rw [List.length_range] at this
  unfold gall
  rw [List.length_cons]
  omega
theorem unseen_le (U S : List RefT) : unseen U S ≤ U.length := List.length_filter_le _ _
theorem dfss_count {kids : RefT → List RefT} {U : List RefT} {n : Nat} (ih : ∀ S r, r ∈ U → unseen U (dfs kids n S r).2 + (dfs kids n S r).1.length ≤ unseen U S) :
    ∀ (l : List RefT) (p : List RefT × List RefT), (∀ x ∈ l, x ∈ U) → unseen U (dfss kids n p l).2 + (dfss kids n p l).1.length ≤ unseen U p.2 + p.1.length
  | [], p, _ => Nat.le_refl _
  | k :: l, p, hl => by
    rw [dfss_cons]
    have h1 := dfss_count ih l (p.1 ++ (dfs kids n p.2 k).1, (dfs kids n p.2 k).2) (fun x hx => hl x (List.mem_cons_of_mem _ hx))
    have h2 := ih p.2 k (hl k (List.mem_cons_self ..))
    simp only [List.length_append] at h1
    omega
theorem dfs_count {kids : RefT → List RefT} {U : List RefT} (hU : ∀ r ∈ U, ∀ x ∈ kids r, x ∈ U) : ∀ (n : Nat) (S : List RefT) (r : RefT), r ∈ U → unseen U (dfs kids n S r).2 + (dfs kids n S r).1.length ≤ unseen U S
  | 0, S, r, _ => Nat.le_refl _
  | n + 1, S, r, hr => by
    by_cases h : r ∈ S
    · rw [dfs_old h]; exact Nat.le_refl _
    · rw [dfs_new h]
      have h1 := dfss_count (dfs_count hU n) (kids r) ([r], S ++ [r]) (hU r hr)
      have h2 := unseen_less hr h
      simp only [List.length_singleton] at h1
      omega
/-- The walk from a ref on. -/
def gnum (g : Grd) : Nat := 16 * g.n + 2
def gwalk (g : Grd) (d : Dsk) (root : RefT) : List RefT := (dfs (gkids g d) (gnum g) [] root).1
theorem gwalk_len (g : Grd) (d : Dsk) (root : RefT) : (gwalk g d root).length ≤ 1 + 16 * g.n := by
  have h1 := dfs_count (U := gall g d root) (fun r _ x hx => gall_kids (r := r) x hx) (gnum g) [] root (List.mem_cons_self ..)
  have h2 := unseen_le (gall g d root) []
  have h3 := gall_len g d root
  unfold gwalk
  omega
theorem gnum_enough (g : Grd) (d : Dsk) (root : RefT) : unseen (gall g d root) [] < gnum g := by
  have h1 := unseen_le (gall g d root) []
  have h2 := gall_len g d root
  unfold gnum
  omega
/-- Those that are not there; all that are wanted then. -/
def gmiss (g : Grd) (d : Dsk) (root : RefT) : List RefT := (gwalk g d root).filter fun r => !gok g d r
def Grd.wants (g : Grd) (l : List RefT) : Grd := l.foldl (fun h r => if h.of r = true then h.want r else h) g
theorem Grd.want_n (g : Grd) (r : RefT) : (g.want r).n = g.n := by unfold Grd.want; split <;> rfl
theorem Grd.want_L (g : Grd) (r : RefT) : (g.want r).L = g.L := by unfold Grd.want; split <;> rfl
theorem Grd.wants_n (l : List RefT) : ∀ g : Grd, (g.wants l).n = g.n := by
  unfold Grd.wants
  induction l with
  | nil => intro g; rfl
  | cons r l ih =>
    intro g
    rw [List.foldl_cons, ih]
    split
    · exact Grd.want_n g r
    · rfl
theorem Grd.wants_L (l : List RefT) : ∀ g : Grd, (g.wants l).L = g.L := by
  unfold Grd.wants
  induction l with
  | nil => intro g; rfl
  | cons r l ih =>
    intro g
    rw [List.foldl_cons, ih]
    split
    · exact Grd.want_L g r
    · rfl
theorem Grd.wants_len (l : List RefT) : ∀ g : Grd, (g.wants l).W.length ≤ g.W.length + l.length := by
  unfold Grd.wants
  induction l with
  | nil => intro g; exact Nat.le_refl _
  | cons r l ih =>
    intro g
    rw [List.foldl_cons, List.length_cons]
    refine Nat.le_trans (ih _) ?_
    split
    · unfold Grd.want; split
      · omega
      · simp only [List.length_append, List.length_singleton]; omega
    · omega
theorem Grd.wants_nil (g : Grd) : g.wants [] = g := rfl
theorem Grd.wants_snoc (g : Grd) (l : List RefT) (r : RefT) : g.wants (l ++ [r]) = if g.of r = true then (g.wants l).want r else g.wants l := by
  have h : (g.wants l).of r = g.of r := by unfold Grd.of; rw [Grd.wants_n]
  unfold Grd.wants at h ⊢
  rw [List.foldl_append, List.foldl_cons, List.foldl_nil, h]
/-- What Reach answers: the error's number, what is not there, the grid. -/
def greach (g : Grd) (d : Dsk) (f : Option Fus) (root : RefT) : Int × List RefT × Grd :=
  if d.isOut f = true then (11, [], g) else if g.of root = false then (2, [], g) else (0, gmiss g d root, g.wants (gmiss g d root))
/-- What has been told ahead of round k. -/
def gsome (g : Grd) (d : Dsk) (root : RefT) (k : Nat) : List RefT := ((gwalk g d root).take k).filter fun r => !gok g d r
theorem gsome_succ {g : Grd} {d : Dsk} {root : RefT} {k : Nat} (h : k < (gwalk g d root).length) : gsome g d root (k + 1) = if gok g d (gwalk g d root)[k] = true then gsome g d root k else gsome g d root k ++ [(gwalk g d root)[k]] := by
  unfold gsome
  rw [List.take_succ_eq_append_getElem h, List.filter_append]
  cases hh : gok g d (gwalk g d root)[k] <;> simp [hh]
theorem gsome_all (g : Grd) (d : Dsk) (root : RefT) : gsome g d root (gwalk g d root).length = gmiss g d root := by unfold gsome gmiss; rw [List.take_length]
theorem gsome_len (g : Grd) (d : Dsk) (root : RefT) (k : Nat) : (gsome g d root k).length ≤ 1 + 16 * g.n := by
  refine Nat.le_trans (List.length_filter_le _ _) (Nat.le_trans ?_ (gwalk_len g d root))
  rw [List.length_take]; omega
end Go.Proofs.YthfdjemlibecgaaDoor
