/- A region that draws its order: a head whose operations, calls among them, yield one value in every world of a class and stay in the class, and behind it a few operations in one forced order. Plain facts over any program. No condition. -/
import Derived.Test.YtgkljncigbiffaaDoorMTableTurned1
import Derived.Laws.BytesArg
import Derived.Laws.CopyOwn
import Derived.BigQuiet
import Derived.Lib.SlBytesConst
import Derived.Shelf.Spec.TrailingZeros
import Derived.LaidMore
import Derived.Lib.LaidTab
import Derived.Stop.Joined
import Derived.Lib.BytesEntry
import Derived.Laws.Externs
namespace Go
section
variable {P : Program} {ops : Array Oper} {md : Region.Mode} {C : World → Prop} {n : Nat}

/-! The head 'hs' and the tail 'ts' are told by lists of places; others have come up before. -/
def Region.linkB (md : Region.Mode) (ops : Array Oper) : List Nat → Bool
  | t :: t' :: r => Region.waitsFor md ops t' t && Region.linkB md ops (t' :: r)
  | _ => true
/-- Each place of the head is waited for by a later one of the head, or by the tail's first. -/
def Region.sinkL (md : Region.Mode) (ops : Array Oper) (hs : List Nat) (t : Nat) : Bool := hs.all fun i => (t :: hs).any fun j => decide (i < j) && Region.waitsFor md ops j i
/-- What has come up is closed under what it waits for; the tail has not come up. -/
structure ListInv (md : Region.Mode) (ops : Array Oper) (hs ts : List Nat) (s : Array Bool) : Prop where
  size : s.size = ops.size
  closed : ∀ j oj, ops[j]? = some oj → s.getD j false = true → ∀ e ∈ oj.after, Region.binds md e = true → s.getD e.on false = true
  tail : ∀ t ∈ ts, s.getD t true = false
  cover : ∀ j, j < ops.size → s.getD j true = false → j ∈ hs ∨ j ∈ ts
theorem ListInv.set {hs ts : List Nat} {s : Array Bool} {i : Nat} (inv : ListInv md ops hs ts s) (hi : i ∈ Region.ready md ops s) (hn : i ∉ ts) : ListInv md ops hs ts (s.setIfInBounds i true) := by
  obtain ⟨_, oi, hoi, hall⟩ := mem_ready.1 hi
  refine ⟨by simp [inv.size], fun j oj hj hl e he hb => ?_, fun t ht => ?_, fun j hj hu => ?_⟩
  · by_cases hij : i = j
    · have e2 : oj = oi := Option.some.inj (hj.symm.trans (hij ▸ hoi))
      rw [e2] at he
      exact getD_set_true (hall e he hb)
    · rw [getD_set_ne false hij] at hl
      exact getD_set_true (inv.closed j oj hj hl e he hb)
  · have hne : i ≠ t := fun e => hn (e ▸ ht)
    rw [getD_set_ne true hne]; exact inv.tail t ht
  · by_cases hij : i = j
    · rw [← hij] at hj hu
      have : i < s.size := by rw [inv.size]; exact hj
      simp [this] at hu
    · rw [getD_set_ne true hij] at hu; exact inv.cover j hj hu
/-- As long as one of the head has not come up none of the tail is ready. -/
theorem tail_late {hs : List Nat} {t0 : Nat} {ts : List Nat} {s : Array Bool} (hsk : Region.sinkL md ops hs t0 = true) (hlk : Region.linkB md ops (t0 :: ts) = true)
    (hlt : ∀ i ∈ hs, i < ops.size) (inv : ListInv md ops hs (t0 :: ts) s) :
    ∀ (d i : Nat), ops.size - i = d → i ∈ hs → s.getD i true = false → ∀ t ∈ t0 :: ts, t ∉ Region.ready md ops s := by
  intro d
  induction d using Nat.strongRecOn with
  | _ d ih =>
    intro i hd hi hun t ht hr
    by_cases e0 : t = t0
    · have h1 := List.all_eq_true.1 hsk i hi
      obtain ⟨j, hj, hj2⟩ := List.any_eq_true.1 h1
      simp only [Bool.and_eq_true, decide_eq_true_eq] at hj2
      obtain ⟨oj, hoj, e, he, hb, hon⟩ := Region.waitsFor_spec hj2.2
      have hjlt : j < ops.size := (Array.getElem?_eq_some_iff.1 hoj).1
      by_cases ejt : j = t0
      · obtain ⟨_, o2, ho2, hall⟩ := mem_ready.1 hr
        rw [e0, ← ejt] at ho2
        have : o2 = oj := Option.some.inj (ho2.symm.trans hoj)
        rw [this] at hall
        have h2 := hall e he hb
        rw [hon, getD_both hun] at h2
        cases h2
      · have hjh : j ∈ hs := by
          rcases List.mem_cons.1 hj with h | h
          · exact absurd h ejt
          · exact h
        cases hl : s.getD j false with
        | true =>
          have h2 := inv.closed j oj hoj hl e he hb
          rw [hon, getD_both hun] at h2
          cases h2
        | false =>
          have hjs : j < s.size := by rw [inv.size]; exact hjlt
          exact ih (ops.size - j) (by have := hlt i hi; omega) j rfl hjh (getD_in hjs hl) t ht hr
    · have hts : t ∈ ts := by
        rcases List.mem_cons.1 ht with h | h
        · exact absurd h e0
        · exact h
      have key : ∀ (l : List Nat) (p : Nat), Region.linkB md ops (p :: l) = true → t ∈ l → ∃ q, (q = p ∨ q ∈ l) ∧ Region.waitsFor md ops t q = true := by
        intro l
        induction l with
        | nil => intro p _ h; cases h
        | cons x l ih2 =>
          intro p hp h
          simp only [Region.linkB, Bool.and_eq_true] at hp
          rcases List.mem_cons.1 h with h | h
          · exact ⟨p, .inl rfl, by rw [h]; exact hp.1⟩
          · obtain ⟨q, hq, hw⟩ := ih2 x hp.2 h
            refine ⟨q, .inr ?_, hw⟩
            rcases hq with rfl | hq
            · simp
            · simp [hq]
      obtain ⟨q, hq, hw⟩ := key ts t0 hlk hts
      obtain ⟨ot, hot, e, he, hb, hon⟩ := Region.waitsFor_spec hw
      obtain ⟨_, o2, ho2, hall⟩ := mem_ready.1 hr
      have : o2 = ot := Option.some.inj (ho2.symm.trans hot)
      rw [this] at hall
      have h2 := hall e he hb
      have hqu : s.getD q true = false := inv.tail q (by rcases hq with rfl | hq <;> simp [*])
      rw [hon, getD_both hqu] at h2
      cases h2


/-- f operations of the head come up next, in whatever order; behind them L. -/
def HeadC (P : Program) (md : Region.Mode) (ops : Array Oper) (C : World → Prop) (L : Array Bool → Act → Prop) : Nat → Array Bool → Act → Prop
  | 0, s, a => L s a
  | f + 1, s, a => Region.ready md ops s ≠ [] ∧ ∀ i ∈ Region.ready md ops s, qOp P ops C i (HeadC P md ops C L f (s.setIfInBounds i true)) a

theorem any_of_headC {g : Nat} {L : Array Bool → Act → Prop} {Q : Exit → Act → World → Prop} (hL : ∀ s a w, C w → L s a → wpAny P md ops Q g s a w) (f : Nat) :
    ∀ (s : Array Bool) (a : Act) (w : World), C w → HeadC P md ops C L f s a → wpAny P md ops Q (f + g) s a w := by
  induction f with
  | zero => intro s a w hw h; rw [Nat.zero_add]; exact hL s a w hw h
  | succ f ih =>
    intro s a w hw h
    have e : f + 1 + g = (f + g) + 1 := by omega
    rw [e]
    exact ⟨fun h0 => absurd h0 h.1, fun i hi => wpOp_of_qOp hw (fun a' w' hw' h' => ih _ a' w' hw' h') (h.2 i hi)⟩

/-- An operation that is ready and yields its value in the whole class may be taken first. -/
theorem headC_first {hs ts : List Nat} {t0 i : Nat} {oi : Oper} {v : Value} {L : Array Bool → Act → Prop} (hi : ops[i]? = some oi) (hns : Region.noSelect ops = true)
    (hsk : Region.sinkL md ops hs t0 = true) (hlk : Region.linkB md ops (t0 :: ts) = true) (hlt : ∀ i ∈ hs, i < ops.size) (hdis : ∀ i ∈ hs, i ∉ t0 :: ts) (hin : i ∈ hs)
    (hL : ∀ s a, L s a → ∀ j ∈ Region.ready md ops s, j ∈ t0 :: ts) (f : Nat) :
    ∀ (s : Array Bool) (a : Act), ListInv md ops hs (t0 :: ts) s →
      (∀ j oj, ops[j]? = some oj → j ≠ i → s.getD j true = false → (∀ e ∈ oj.after, Region.binds md e = true → e.on ≠ i) → oi.apart ops oj = true) →
      i ∈ Region.ready md ops s → YieldsIn P ops C oi v a →
      HeadC P md ops C L f (s.setIfInBounds i true) (a.put oi.dst v) → HeadC P md ops C L (f + 1) s a := by
  have sel := fun (j : Nat) (o : Oper) cs b => Region.noSelect_spec hns j o cs b
  induction f with
  | zero =>
    intro s a inv _ hr hy H
    refine ⟨fun h => (by rw [h] at hr; cases hr), fun j hj => ?_⟩
    by_cases e : j = i
    · rw [e]; exact hy.qOp hi H
    · exact absurd hj (tail_late hsk hlk hlt inv _ i rfl hin (mem_ready.1 hr).1 j (hL _ _ H j (ready_mono hj e)))
  | succ f ih =>
    intro s a inv hfree hr hy H
    have hun := (mem_ready.1 hr).1
    refine ⟨fun h => (by rw [h] at hr; cases hr), fun j hj => ?_⟩
    by_cases e : j = i
    · rw [e]; exact hy.qOp hi H
    · obtain ⟨hju, oj, hoj, hall⟩ := mem_ready.1 hj
      have hjh : j ∈ hs := by
        rcases inv.cover j (Array.getElem?_eq_some_iff.1 hoj).1 hju with h | h
        · exact h
        · exact absurd hj (tail_late hsk hlk hlt inv _ i rfl hin hun j h)
      have hno : ∀ x ∈ oj.after, Region.binds md x = true → x.on ≠ i := by
        intro x hx hb hxi
        have h1 := hall x hx hb
        rw [hxi, getD_both hun] at h1
        cases h1
      have h2 := qOp_put hoj (hfree j oj hoj e hju hno) (fun cs b => sel i oi cs b hi) (fun cs b => sel j oj cs b hoj) hy (H.2 j (ready_mono hj e))
      have hfree2 : ∀ k ok, ops[k]? = some ok → k ≠ i → (s.setIfInBounds j true).getD k true = false →
          (∀ x ∈ ok.after, Region.binds md x = true → x.on ≠ i) → oi.apart ops ok = true := by
        intro k ok hk hki hkun hkno
        refine hfree k ok hk hki ?_ hkno
        by_cases ejk : j = k
        · rw [← ejk]; exact hju
        · rw [getD_set_ne true ejk] at hkun; exact hkun
      refine qOp_mono (fun a' h3 => ih _ a' (inv.set hj (hdis j hjh)) hfree2 (ready_mono hr (Ne.symm e)) h3.1 ?_) h2
      rw [Array.setIfInBounds_comm _ _ e]
      exact h3.2

/-- The places in this order may be taken one by one; 'last' holds of what has come up then. -/
def Region.orderB (md : Region.Mode) (ops : Array Oper) (last : Array Bool → Bool) : List Nat → Array Bool → Bool
  | [], s => last s
  | i :: r, s => (Region.ready md ops s).contains i && Region.free md ops s i && Region.orderB md ops last r (s.setIfInBounds i true)
/-- The head, one by one. -/
theorem headC_order {hs ts : List Nat} {t0 : Nat} {L : Act → Prop} {last : Array Bool → Bool} (hns : Region.noSelect ops = true)
    (hsk : Region.sinkL md ops hs t0 = true) (hlk : Region.linkB md ops (t0 :: ts) = true) (hlt : ∀ i ∈ hs, i < ops.size) (hdis : ∀ i ∈ hs, i ∉ t0 :: ts)
    (hlast : ∀ s, last s = true → ∀ j ∈ Region.ready md ops s, j ∈ t0 :: ts) (r : List Nat) :
    ∀ (l : List Oper) (s : Array Bool) (a : Act), r.map (fun i => ops[i]?) = l.map some → (∀ i ∈ r, i ∈ hs) → ListInv md ops hs (t0 :: ts) s →
    Region.orderB md ops last r s = true → wpQuiet P ops C L l a →
    HeadC P md ops C (fun s' a' => last s' = true ∧ L a') r.length s a := by
  induction r with
  | nil =>
    intro l s a hl _ _ hB h
    cases l with
    | nil => exact ⟨hB, h⟩
    | cons _ _ => simp at hl
  | cons i r ih =>
    intro l s a hl hin inv hB h
    cases l with
    | nil => simp at hl
    | cons o l =>
      simp only [List.map_cons, List.cons.injEq] at hl
      simp only [Region.orderB, Bool.and_eq_true] at hB
      have hr : i ∈ Region.ready md ops s := by simpa using hB.1.1
      have hq : qOp P ops C i (wpQuiet P ops C L l) a := by unfold qOp; simp only [hl.1]; exact h
      obtain ⟨v, hy, hK⟩ := yieldsIn_of_qOp hl.1 hq
      have hih := hin i (by simp)
      refine headC_first hl.1 hns hsk hlk hlt hdis hih (fun s' a' h' => hlast s' h'.1) r.length s a inv (Region.free_spec hl.1 hB.1.2) hr hy ?_
      exact ih l _ _ hl.2 (fun x hx => hin x (by simp [hx])) (inv.set hr (hdis i hih)) hB.2 hK

/-- Operations that yield their value in whatever world, taken first one by one; behind them Q. -/
def PureWalk (P : Program) (ops : Array Oper) (Q : Act → Prop) : List Oper → Act → Prop
  | [], a => Q a
  | o :: r, a => ∃ v, Yields P ops o v a ∧ PureWalk P ops Q r (a.put o.dst v)
theorem PureWalk.nil {Q : Act → Prop} {a : Act} (h : Q a) : PureWalk P ops Q [] a := h
theorem any_of_pure {Q : Exit → Act → World → Prop} {g : Nat} {last : Array Bool → Bool} (hns : Region.noSelect ops = true)
    (hQ : ∀ c a a' w, a'.defers = a.defers → Q (.panic c) a' w → Q (.panic c) a w) {R : Act → Prop} {w : World} (inv0 : List Nat → Array Bool → Prop) (hstep : ∀ s i r, inv0 (i :: r) s → i ∈ Region.ready md ops s → inv0 r (s.setIfInBounds i true))
    (hR : ∀ s a, inv0 [] s → last s = true → R a → wpAny P md ops Q g s a w) (r : List Nat) :
    ∀ (l : List Oper) (s : Array Bool) (a : Act), r.map (fun i => ops[i]?) = l.map some → inv0 r s → Region.orderB md ops last r s = true → PureWalk P ops R l a → wpAny P md ops Q (r.length + g) s a w := by
  induction r with
  | nil =>
    intro l s a hl hi hB h
    cases l with
    | nil => rw [List.length_nil, Nat.zero_add]; exact hR s a hi hB h
    | cons _ _ => simp at hl
  | cons i r ih =>
    intro l s a hl hinv hB h
    cases l with
    | nil => simp at hl
    | cons o l =>
      simp only [List.map_cons, List.cons.injEq] at hl
      simp only [Region.orderB, Bool.and_eq_true] at hB
      obtain ⟨v, hv, hn⟩ := h
      have hr : i ∈ Region.ready md ops s := by simpa using hB.1.1
      have e : (i :: r).length + g = (r.length + g) + 1 := by simp only [List.length_cons]; omega
      rw [e]
      refine wpAny_take hl.1 hns hB.1.2 hB.1.1 (fun c a w q => hQ c a _ w (by cases o.dst <;> rfl) q) hv ?_
      exact ih l _ _ hl.2 (hstep s i r hinv hr) hB.2 hn

/-- A tail that comes up one by one. -/
def Region.seqL (md : Region.Mode) (ops : Array Oper) : List Nat → Array Bool → Bool
  | [], s => (Region.ready md ops s).isEmpty
  | i :: r, s => decide (Region.ready md ops s = [i]) && Region.seqL md ops r (s.setIfInBounds i true)
theorem any_of_seqL {Q : Exit → Act → World → Prop} (r : List Nat) :
    ∀ (l : List Oper) (s : Array Bool) (a : Act) (w : World), r.map (fun i => ops[i]?) = l.map some → Region.seqL md ops r s = true → wpList P ops Q l a w → wpAny P md ops Q r.length s a w := by
  induction r with
  | nil =>
    intro l s a w hl hB h
    cases l with
    | nil => exact ⟨by simpa [Region.seqL] using hB, h⟩
    | cons _ _ => simp at hl
  | cons i r ih =>
    intro l s a w hl hB h
    cases l with
    | nil => simp at hl
    | cons o l =>
      simp only [List.map_cons, List.cons.injEq] at hl
      simp only [Region.seqL, Bool.and_eq_true, decide_eq_true_eq] at hB
      refine ⟨fun h1 => (by rw [hB.1] at h1; cases h1), fun j hj => ?_⟩
      rw [hB.1] at hj
      have hji : j = i := by simpa using hj
      rw [hji]
      have hw : wpOp P ops Q i (wpList P ops Q l) a w := by unfold wpOp; simp only [hl.1]; exact h
      exact wpOp_mono (fun a' w' h' => ih l _ a' w' hl.2 hB.2 h') hw
theorem seqL_ready {t0 : Nat} {ts : List Nat} {s : Array Bool} (h : Region.seqL md ops (t0 :: ts) s = true) : ∀ j ∈ Region.ready md ops s, j ∈ t0 :: ts := by
  intro j hj
  simp only [Region.seqL, Bool.and_eq_true, decide_eq_true_eq] at h
  rw [h.1] at hj
  simp at hj; simp [hj]

/-- Operations that can only yield a value. -/
def Op.valued : Op → Bool
  | .move _ | .assign _ | .binOp .. | .unOp .. | .convert .. | .fieldAddr .. | .field .. | .indexAddr .. | .index .. | .slice .. | .extract .. | .build .. | .sliceToArrayPointer .. => true
  | .call c => match c.callee with
    | .builtin .len | .builtin .cap => true
    | _ => false
  | _ => false
theorem valued_run {o : Oper} (h : o.op.valued = true) (ρ : Operand → Value) (w w' : World) (n : Next) (hr : (execOp ρ o).run P w = .ok n w') : ∃ v, n = .value v := by
  have key : ∀ (m : Sem Value), (do let x ← m; pure (Next.value x) : Sem Next).run P w = .ok n w' → ∃ v, n = .value v := by
    intro m hm
    rw [Sem.run_bind] at hm
    generalize m.run P w = r at hm
    cases r with
    | ok x w2 => simp only [Result.andThen_ok, Sem.run_pure, Result.ok.injEq] at hm; exact ⟨x, hm.1.symm⟩
    | halt x w2 => simp [Result.andThen] at hm
  obtain ⟨dst, op, type, pos, after, guard⟩ := o
  cases op
  case call c =>
    obtain ⟨callee, cargs, cats⟩ := c
    cases callee with
    | builtin b =>
      cases b <;> first
        | (simp [Op.valued] at h; done)
        | (simp only [execOp, resolve, Sem.run_bind, Sem.run_pure, Result.andThen_ok, invoke, builtin] at hr; exact key _ (by rw [Sem.run_bind]; exact hr))
    | _ => simp [Op.valued] at h
  all_goals first
    | exact key _ hr
    | (simp [Op.valued] at h; done)
    | (simp only [execOp, Sem.run_pure, Result.ok.injEq] at hr; exact ⟨_, hr.1.symm⟩)
theorem pureWalk_of_quiet {Q : Act → Prop} (l : List Oper) : ∀ a : Act, (l.all fun o => o.op.valued) = true → wpQuiet P ops (fun _ => True) Q l a → PureWalk P ops Q l a := by
  induction l with
  | nil => intro a _ h; exact h
  | cons o l ih =>
    intro a hv h
    simp only [List.all_cons, Bool.and_eq_true] at hv
    unfold wpQuiet at h
    cases hw : Region.wanted o (yielded ops a.tmps) with
    | false =>
      rw [if_neg (by rw [hw]; exact Bool.false_ne_true)] at h
      exact ⟨_, .inr ⟨hw, rfl⟩, ih _ (by simpa using hv.2) h⟩
    | true =>
      rw [if_pos hw] at h
      obtain ⟨v, h1, h2⟩ := h
      refine ⟨v, .inl ⟨hw, fun w => ?_⟩, ih _ (by simpa using hv.2) h2⟩
      have h3 := h1 w trivial
      unfold Oper.quietAt at h3
      cases hr : (execOp a.eval o).run P w with
      | ok n w' =>
        obtain ⟨u, rfl⟩ := valued_run hv.1 _ _ _ _ hr
        rw [hr] at h3
        simp only [Oper.quietUpon] at h3
        rw [h3.1, h3.2]
      | halt x w' => rw [hr] at h3; simp only [Oper.quietUpon] at h3

/-- All that the kernel is asked of a region: 'ps' first (they hang on no world), then the head 'hs', then the tail 't0 :: ts'. -/
def Region.mixB (md : Region.Mode) (ops : Array Oper) (ps hs : List Nat) (t0 : Nat) (ts : List Nat) : Bool :=
  (ps.filterMap fun i => ops[i]?).all (fun o => o.op.valued) && Region.noSelect ops && Region.sinkL md ops hs t0 && Region.linkB md ops (t0 :: ts) && hs.all (fun i => decide (i < ops.size) && !(t0 :: ts).contains i) && (t0 :: ts).all (fun i => !ps.contains i && decide (i < ops.size)) &&
  (List.range ops.size).all (fun j => ps.contains j || hs.contains j || (t0 :: ts).contains j) && decide (ps.length + (hs.length + (ts.length + 1)) = ops.size) &&
  Region.orderB md ops (Region.orderB md ops (Region.seqL md ops (t0 :: ts)) hs) ps (Array.replicate ops.size false)

/-- **THE REGION**: operations that hang on no world first, the head in a class of worlds, the tail one by one. -/
theorem wp_region_mix {id : Nat} {Q : Exit → Act → World → Prop} {a : Act} {w : World} {l : List Oper} (C : World → Prop) (ps hs : List Nat) (t0 : Nat) (ts : List Nat) (hm : P.follows .mixedOrders = true)
    (hB : Region.mixB .any l.toArray ps hs t0 ts = true) (hQ : ∀ c a a' w, a'.defers = a.defers → Q (.panic c) a' w → Q (.panic c) a w) (hC : C w.drew)
    (h : wpQuiet P l.toArray (fun _ => True) (wpQuiet P l.toArray C (fun a' => ∀ w', C w' → wpList P l.toArray Q ((t0 :: ts).filterMap fun i => l[i]?) a' w') (hs.filterMap fun i => l[i]?)) (ps.filterMap fun i => l[i]?) a) : (Code.region id l.toArray true).wp P Q a w := by
  simp only [Region.mixB, Bool.and_eq_true, decide_eq_true_eq] at hB
  obtain ⟨⟨⟨⟨⟨⟨⟨⟨hval, hns⟩, hsk⟩, hlk⟩, hhs⟩, hts⟩, hcv⟩, hlen⟩, hord⟩ := hB
  replace h := pureWalk_of_quiet _ _ (by simpa using hval) h
  have hh1 : ∀ i ∈ hs, i < l.toArray.size := fun i hi => by have := List.all_eq_true.1 hhs i hi; simp only [Bool.and_eq_true, decide_eq_true_eq] at this; exact this.1
  have hh2 : ∀ i ∈ hs, i ∉ t0 :: ts := fun i hi => by
    have := List.all_eq_true.1 hhs i hi
    simp only [Bool.and_eq_true, Bool.not_eq_true'] at this
    have h2 := this.2
    intro hmem
    rw [List.contains_iff_mem.2 hmem] at h2
    cases h2
  have ht1 : ∀ i ∈ t0 :: ts, i ∉ ps ∧ i < l.toArray.size := fun i hi => by
    have := List.all_eq_true.1 hts i hi
    simp only [Bool.and_eq_true, Bool.not_eq_true', decide_eq_true_eq] at this
    refine ⟨fun hmem => ?_, this.2⟩
    rw [List.contains_iff_mem.2 hmem] at this
    cases this.1
  have hsome : ∀ r : List Nat, (∀ i ∈ r, i < l.toArray.size) → r.map (fun i => l.toArray[i]?) = (r.filterMap fun i => l[i]?).map some := by
    intro r
    induction r with
    | nil => intro _; rfl
    | cons i r ih =>
      intro hr
      have hi : i < l.length := by simpa using hr i (by simp)
      rw [List.map_cons, ih (fun x hx => hr x (by simp [hx]))]
      have e : l[i]? = some l[i] := List.getElem?_eq_getElem hi
      simp [e]
  have hordlt : ∀ (last : Array Bool → Bool) (r : List Nat) (s : Array Bool), Region.orderB .any l.toArray last r s = true → ∀ i ∈ r, i < l.toArray.size := by
    intro last r
    induction r with
    | nil => intro _ _ i hi; cases hi
    | cons x r ih =>
      intro s hs i hi
      simp only [Region.orderB, Bool.and_eq_true] at hs
      rcases List.mem_cons.1 hi with rfl | hi
      · have hr : i ∈ Region.ready .any l.toArray s := by simpa using hs.1.1
        obtain ⟨_, o, ho, _⟩ := mem_ready.1 hr
        exact (Array.getElem?_eq_some_iff.1 ho).1
      · exact ih _ hs.2 i hi
  refine wp_region_any hm ?_
  let inv0 : List Nat → Array Bool → Prop := fun r s => s.size = l.toArray.size ∧ (∀ j oj, l.toArray[j]? = some oj → s.getD j false = true → ∀ e ∈ oj.after, Region.binds .any e = true → s.getD e.on false = true) ∧
    (∀ j, s.getD j true = false → j < l.toArray.size ∧ (j ∉ ps ∨ j ∈ r)) ∧ (∀ j, j < l.toArray.size → j ∉ ps → s.getD j true = false) ∧ (∀ i ∈ r, i ∈ ps)
  have hstep : ∀ s i r, inv0 (i :: r) s → i ∈ Region.ready .any l.toArray s → inv0 r (s.setIfInBounds i true) := by
    intro s i r inv hi
    obtain ⟨_, oi, hoi, hall⟩ := mem_ready.1 hi
    obtain ⟨i1, i2, i3, i4, i5⟩ := inv
    refine ⟨by simp [i1], fun j oj hj hl e he hb => ?_, fun j hj => ?_, fun j hj hp => ?_, fun x hx => i5 x (by simp [hx])⟩
    · by_cases hij : i = j
      · have e2 : oj = oi := Option.some.inj (hj.symm.trans (hij ▸ hoi))
        rw [e2] at he
        exact getD_set_true (hall e he hb)
      · rw [getD_set_ne false hij] at hl
        exact getD_set_true (i2 j oj hj hl e he hb)
    · have hne : i ≠ j := by
        intro e
        rw [← e] at hj
        have hl : i < s.size := by rw [i1]; exact (Array.getElem?_eq_some_iff.1 hoi).1
        simp [hl] at hj
      rw [getD_set_ne true hne] at hj
      have h1 := i3 j hj
      refine ⟨h1.1, h1.2.imp (fun q => q) fun hm => ?_⟩
      rcases List.mem_cons.1 hm with h | h
      · exact absurd h.symm hne
      · exact h
    · have hne : i ≠ j := fun e => hp (e ▸ i5 i (by simp))
      rw [getD_set_ne true hne]; exact i4 j hj hp
  have final : ∀ s a, inv0 [] s → Region.orderB .any l.toArray (Region.seqL .any l.toArray (t0 :: ts)) hs s = true →
      wpQuiet P l.toArray C (fun a' => ∀ w', C w' → wpList P l.toArray Q ((t0 :: ts).filterMap fun i => l[i]?) a' w') (hs.filterMap fun i => l[i]?) a → wpAny P .any l.toArray Q (hs.length + (ts.length + 1)) s a w.drew := by
    intro s a inv hB hq
    obtain ⟨i1, i2, i3, i4, _⟩ := inv
    have linv : ListInv .any l.toArray hs (t0 :: ts) s := by
      refine ⟨i1, i2, fun t ht => i4 t (ht1 t ht).2 (ht1 t ht).1, fun j hj hu => ?_⟩
      have h1 := List.all_eq_true.1 hcv j (List.mem_range.2 hj)
      simp only [Bool.or_eq_true, List.contains_iff_mem] at h1
      rcases h1 with (h1 | h1) | h1
      · rcases (i3 j hu).2 with h2 | h2
        · exact absurd h1 h2
        · cases h2
      · exact .inl h1
      · exact .inr h1
    have H := headC_order (md := .any) (last := Region.seqL .any l.toArray (t0 :: ts)) hns hsk hlk hh1 hh2 (fun s h => seqL_ready h) hs _ s a (hsome hs hh1) (fun i hi => hi) linv hB hq
    exact any_of_headC (g := ts.length + 1) (fun s' a' w' hw' hL => any_of_seqL (t0 :: ts) _ s' a' w' (hsome _ fun i hi => (ht1 i hi).2) hL.1 (hL.2 w' hw')) _ s a w.drew hC H
  have R := any_of_pure (g := hs.length + (ts.length + 1)) (md := .any) (last := fun s => Region.orderB .any l.toArray (Region.seqL .any l.toArray (t0 :: ts)) hs s) hns hQ (R := _) (w := w.drew)
    inv0 hstep final ps _ _ a (hsome ps (hordlt _ ps _ hord)) ⟨by simp, fun j oj _ hl => (by rw [getD_replicate_false] at hl; cases hl), fun j hj => ⟨?_, ?_⟩, fun j hj _ => getD_in (by simpa using hj) (getD_replicate_false _ _), fun i hi => hi⟩ hord h
  · rw [hlen] at R; exact R
  · rcases Nat.lt_or_ge j l.toArray.size with h1 | h1
    · exact h1
    · have h2 : ¬ j < l.length := by simpa using h1
      simp [Array.getD, h2] at hj
  · by_cases hp : j ∈ ps
    · exact .inr hp
    · exact .inl hp

/-- One operation of such a head: a load of a whole array or struct. -/
theorem wpQuiet_load_blk {Q : Act → Prop} {rest : List Oper} {o : Oper} {a : Act} {g : Nat} {t : TypeId} {cs : Array Value} (hb : ∀ w, C w → Blk w g t cs) (hgd : o.guard = none) (ty : TypeId) (x : Operand) (ho : o.op = .load ty x)
    (hx : a.eval x = .pointer (some ⟨g, 0, none⟩)) (d : TypeDesc)
    (hu : P.underlying ty = some d) (hd : (match d with | .struct _ | .array _ _ => true | _ => false) = true) {n : Nat} (hi : (P.info? ty).map (·.size) = some n) (hn : cs.size = n)
    (h : wpQuiet P ops C Q rest (a.put o.dst (.agg cs))) : wpQuiet P ops C Q (o :: rest) a := by
  refine wpQuiet_step fun K hK => ?_
  rw [if_pos (by simp [Region.wanted, hgd])]
  refine ⟨_, fun w hw => ?_, hK _ h⟩
  unfold Oper.quietAt execOp
  simp only [ho, hx, Instr.loadAt, Instr.sureAddr, Sem.run_bind, Sem.run_pure, Result.andThen_ok, run_loadVar_row w g t ty cs (0, 0) d (hb w hw) hu hd (hn ▸ hi)]
  exact ⟨rfl, rfl⟩
/-- A call of a Go function whose contract holds in the whole class. -/
theorem wpQuiet_call {Q : Act → Prop} {rest : List Oper} {o : Oper} {a : Act} {f : FuncId} (hf : ∀ args w, (callFunc f args).run P w = .ok (.enter f args) w) (hgd : o.guard = none) (xs : List Operand) (ats : Array TypeId)
    (ho : o.op = .call { callee := .value (.func f), args := xs.toArray, argTypes := ats }) (vals : List Value) (hx : xs.map a.eval = vals) (v : Value)
    (hc : ∀ w, C w → Calls P f vals.toArray w fun e w' => e = .returned v ∧ C w') (h : wpQuiet P ops C Q rest (a.put o.dst v)) : wpQuiet P ops C Q (o :: rest) a := by
  refine wpQuiet_step fun K hK => ?_
  rw [if_pos (by simp [Region.wanted, hgd])]
  refine ⟨v, fun w hw => ?_, hK _ h⟩
  obtain ⟨dst, op, type, pos, after, guard⟩ := o
  simp only at ho
  subst ho
  unfold Oper.quietAt
  rw [execOp_call_go, hf]
  have e : #[] ++ xs.toArray.map a.eval ++ #[] = vals.toArray := by rw [← hx]; simp
  rw [e]
  exact ⟨rfl, hc w hw⟩
end
end Go

/- What the functions do that the statements share: bytes compared, copied, lent, kept. Plain facts. No condition. -/
namespace Go
open Go.RowKit
/-- The string that bytes are. -/
def str (l : List UInt8) : ByteArray := ⟨l.toArray⟩
theorem str_beq (l l' : List UInt8) : ((str l).toList == (str l').toList) = decide (l = l') := by
  rw [ByteArray.toList_eq, ByteArray.toList_eq]
  by_cases h : l = l'
  · subst h; simp
  · rw [decide_eq_false h]; simpa [str] using h
theorem strOfNums_iu8 (l : List UInt8) : strOfNums (l.map iu8) = str l := by
  unfold strOfNums str
  rw [List.map_map]
  congr 2
  refine (List.map_congr_left fun b _ => ?_).trans (List.map_id l)
  simp [iu8]
theorem run_convert_str {P : Program} {w : World} {A : Option Addr} {l : List UInt8} (src dst e : TypeId) (hs : P.underlying src = some (.slice e)) (he : P.underlying e = some (.int .u8)) (hd : P.underlying dst = some .string)
    (n c : Nat) (hn : n = l.length) (h : Bytes w A l) : (convert src dst (.slice A n c)).run P w = .ok (.string (str l)) w := by
  subst hn
  cases hl : l with
  | nil =>
    cases A with
    | none => exact run_convert_bytes_nil w src e hs he _ _ dst hd
    | some a =>
      rw [run_convert_bytes_string w src dst e _ _ c hs he hd]
      have := run_bytesToString (P := P) w a 0 c [] (by rfl)
      exact this
  | cons x t =>
    have hp : 0 < l.length := by rw [hl]; simp
    obtain ⟨b, off, rfl, _, hc⟩ := h.at_ hp
    rw [← hl]
    have := run_convert_bytes_arg (P := P) w src e hs he b off l.length c (l.map iu8) (by simp) (fun i hi => by rw [hc i hi]; simp [hi]) dst hd
    rw [this, strOfNums_iu8]
theorem wpList_convert_str {P : Program} {w : World} {Q : Exit → Act → World → Prop} {ops : Array Oper} {rest : List Oper} {o : Oper} {a : Act} (hgd : o.guard = none) (src dst e : TypeId) (x : Operand) (ho : o.op = .convert src dst x)
    (hs : P.underlying src = some (.slice e)) (he : P.underlying e = some (.int .u8)) (hd : P.underlying dst = some .string)
    (A : Option Addr) (n c : Nat) (l : List UInt8) (hx : a.eval x = .slice A n c) (hn : n = l.length) (h : Bytes w A l) (hk : wpList P ops Q rest (a.put o.dst (.string (str l))) w) : wpList P ops Q (o :: rest) a w := by
  refine wpList_run (.string (str l)) hgd ?_ hk
  unfold execOp
  simp only [ho, hx, Sem.run_bind, run_convert_str src dst e hs he hd n c hn h, Result.andThen_ok, Sem.run_pure]
theorem wpList_make_bytes {P : Program} (w : World) {ops : Array Oper} {rest : List Oper} {o : Oper} {a : Act} {Q : Exit → Act → World → Prop}
    (hg : o.guard = none) (l c : Operand) (t : TypeId) (hop : o.op = Op.makeSlice t l c) (e : TypeId) (h1 : P.underlying t = some (.slice e)) (h2 : (P.info? e).map (fun i => (i.zero, i.size, i.bytes)) = some (some (.int .u8 0), 1, 1))
    (kl kc : IntKind) (L C : Int) (n m : Nat) (hl : a.eval l = .int kl L) (hc : a.eval c = .int kc C) (hL : L = (n : Int)) (hC : C = (m : Int)) (hnm : n ≤ m) (hm : m ≤ 140737488400000)
    (hK : ∀ w', Blk w' w.heap.size e ((List.replicate m 0).map u8v).toArray → Below w.heap.size w w' → w'.heap.size = w.heap.size + 1 → wpList P ops Q rest (a.put o.dst (.slice (some ⟨w.heap.size, 0, none⟩) n m)) w') :
    wpList P ops Q (o :: rest) a w := by
  obtain ⟨i, hi, hzz⟩ := Option.map_eq_some_iff.1 h2
  simp only [Prod.mk.injEq] at hzz
  obtain ⟨hz, hs, hb⟩ := hzz
  subst hL
  subst hC
  have hr := run_make (P := P) w t e i _ h1 hi hz kl kc n m (by omega) (by omega) (by rw [hb]; omega) (by omega)
  have e2 : madeCells (Value.int .u8 0).cells (m * i.size) = ((List.replicate m 0).map u8v).toArray := by
    rw [hs, Nat.mul_one]
    unfold madeCells
    apply Array.ext'
    simp [Value.cells, u8v, List.eq_replicate_iff]
    intro b x
    simp [Nat.mod_one, iu8]
  rw [Int.toNat_natCast, Int.toNat_natCast, e2] at hr
  refine wpList_plain hg fun K hK' => ?_
  unfold Oper.wp
  simp only [execOp, hop, hl, hc, hr, Sem.run_bind, Result.andThen_ok, Sem.run_pure]
  exact hK' _ _ (hK _ (Blk.new w e _) ((Below.refl _ _).alloc (Nat.le_refl _) _) (by simp))
/-- A guarded operation that is wanted. -/
theorem wpList_want {P : Program} {w : World} {Q : Exit → Act → World → Prop} {ops : Array Oper} {rest : List Oper} {dst : Option Tmp} {op : Op} {ty : TypeId} {pos : String} {af : Array Edge} {g : Option (Nat × Bool)} {a : Act}
    (hw : Region.wanted ⟨dst, op, ty, pos, af, g⟩ (yielded ops a.tmps) = true) (h : wpList P ops Q (⟨dst, op, ty, pos, af, none⟩ :: rest) a w) : wpList P ops Q (⟨dst, op, ty, pos, af, g⟩ :: rest) a w := by
  unfold wpList at h ⊢
  rw [if_pos hw]
  rw [if_pos (by simp [Region.wanted])] at h
  exact h
/-- []byte("..") of a constant string. -/
theorem wpList_bytes_const {P : Program} {w : World} {Q : Exit → Act → World → Prop} {ops : Array Oper} {rest : List Oper} {o : Oper} {a : Act} (hgd : o.guard = none) (t e : TypeId) (x : Operand) (ho : o.op = .convert t t x)
    (ht : P.underlying t = some (.slice e)) (he : P.underlying e = some (.int .u8)) (l : List UInt8) (C : Array Value) (hC : C = (l.map u8v).toArray) (n : Nat) (hx : a.eval x = .slice (some ⟨w.heap.size, 0, none⟩) n n)
    (h : ∀ w', Bytes w' (some ⟨w.heap.size, 0, none⟩) l → Below w.heap.size w w' → w'.heap.size = w.heap.size + 1 → wpList P ops Q rest (a.put o.dst (.slice (some ⟨w.heap.size, 0, none⟩) n n)) w') : wpList P ops Q (o :: rest) a (w.alloc (.cells C e)) := by
  subst hC
  refine wpList_plain hgd fun K hK => ?_
  unfold Oper.wp execOp
  have hr := Lib.run_convert_bytes_const (P := P) w t e (l.map u8v).toArray n n ht he
  simp only [ho, hx, Sem.run_bind, hr, Result.andThen_ok, Sem.run_pure]
  refine hK _ _ (h _ (fun _ => ⟨w.heap.size, 0, rfl, fun j v hv => ?_⟩) ((Below.refl _ _).alloc (Nat.le_refl _) _) (by simp))
  have hh : (w.alloc (.cells (l.map u8v).toArray e ((l.map u8v).toArray.size, (l.map u8v).toArray.size + 1))).heap[w.heap.size]? = some (.cells (l.map u8v).toArray e ((l.map u8v).toArray.size, (l.map u8v).toArray.size + 1)) := heap_alloc_last w _
  rw [Nat.zero_add, cell_of_row _ _ _ _ _ _ hh]
  simpa using hv
/-- A block of bytes reads. -/
theorem Blk.bytes {w : World} {g : Nat} {t : TypeId} {l : List UInt8} (h : Blk w g t (l.map u8v).toArray) : Bytes w (some ⟨g, 0, none⟩) l := fun _ => ⟨g, 0, rfl, fun j u hu => by rw [h.cell]; simpa using hu⟩
namespace Proofs.YtgkljncigbiffaaDoor
theorem sameBytes_any (A B : Option Addr) (n m c d : Nat) (l l' : List UInt8) (hn : n = l.length) (hm : m = l'.length) (w : World) (h : Bytes w A l) (h' : Bytes w B l') :
    Calls Tryd.prog 38 #[.slice A n c, .slice B m d] w fun e w' => e = .returned (.bool (decide (l = l'))) ∧ w' = w := by
  subst hn hm
  go_enter Tryd.func38, Tryd.ntmps38
  go_wp2_with (first
    | (show wpList _ _ _ ((⟨some 6, _, _, _, _, _⟩ : Oper) :: _) _ _; refine wpList_convert_str (o := ⟨some 6, _, _, _, _, _⟩) (by rfl) 22 9 5 _ (by rfl) Tryd.underlying22 Tryd.underlying5 Tryd.underlying9 A l.length c l (by rfl) rfl h ?_)
    | (show wpList _ _ _ ((⟨some 8, _, _, _, _, _⟩ : Oper) :: _) _ _; refine wpList_convert_str (o := ⟨some 8, _, _, _, _, _⟩) (by rfl) 22 9 5 _ (by rfl) Tryd.underlying22 Tryd.underlying5 Tryd.underlying9 B l'.length d l' (by rfl) rfl h' ?_))
  refine bodyPost_ret (results_tmp rfl _ _ _) rfl ⟨?_, rfl⟩
  simp [str_beq]
theorem size1 : (Tryd.prog.info? 5).map (·.size) = some 1 := by kernel_rfl
end Proofs.YtgkljncigbiffaaDoor
end Go

/- Go's library on words of 64 bits: what the counts answer. Conditions: the word is below 2^64; the table lies as it was laid. -/
namespace Go.Proofs.YtgkljncigbiffaaDoor
open Go.RowKit
theorem tz_zero (w : World) : Calls Tryd.prog 132 #[.int .u64 0] w fun e w' => e = .returned (.int .i64 64) ∧ w = w' := by
  go_enter Tryd.func132, Tryd.ntmps132
  go_wp2
  go_ret
  exact ⟨rfl, rfl⟩
theorem tz_core (x k idx : Nat) (w : World) (hx0 : ((x : Int) == 0) = false)
    (key : IntKind.u64.wrap (bits BinOp.and IntKind.u64 (x : Int) (IntKind.u64.wrap (-(x : Int))) * 285870213051353865) / 288230376151711744 = (idx : Int))
    (hi : idx < 64) (hk : k < 64) (hcell : w.cell? ⟨1, idx, none⟩ = some (.int .u8 k)) :
    Calls Tryd.prog 132 #[.int .u64 x] w fun e w' => e = .returned (.int .i64 k) ∧ w = w' := by
  go_enter Tryd.func132, Tryd.ntmps132
  go_wp2_with (simp only [key])
  go_ret
  exact ⟨rfl, rfl⟩
/-- The table of Go's library lies as it was laid. -/
def Tab (w : World) : Prop := 1 < w.heap.size ∧ TabAt 1 Lib.deBruijn64tab w
theorem tz_any (x : Nat) (hx : x < 18446744073709551616) (w : World) (hT : Tab w) :
    Calls Tryd.prog 132 #[.int .u64 x] w fun e w' => e = .returned (.int .i64 (Lib.ctz 64 x : Nat)) ∧ w = w' := by
  by_cases hx0 : x = 0
  · subst hx0
    exact tz_zero w
  · obtain ⟨hlow, hk⟩ := Lib.lowest_bit 64 x hx0 hx
    obtain ⟨hi, htab⟩ := Lib.deBruijn64_at _ hk
    have hcell := hT.2 _ hi
    rw [htab] at hcell
    exact tz_core x _ _ w (by simp; omega) (tz64_key x _ hx hx0 hlow) hi hk hcell
end Go.Proofs.YtgkljncigbiffaaDoor

/- The library's table stays. Plain facts of this program. No condition. -/
namespace Go.Proofs.YtgkljncigbiffaaDoor
open Go.RowKit
theorem Tab.below {w w' : World} (h : Tab w) (hb : Below w.heap.size w w') : Tab w' :=
  ⟨Nat.lt_of_lt_of_le h.1 hb.size, fun j hj => (hb.cell (p := ⟨1, j, none⟩) h.1).trans (h.2 j hj)⟩
theorem Tab.upd {w w' : World} {g : Nat} (h : Tab w) (u : Upd g w w') (hg : 1 < g) : Tab w' := by
  have hh := u.block 1 (by omega)
  refine ⟨by rw [u.size]; exact h.1, fun j hj => ?_⟩
  have e := h.2 j hj
  exact (World.cell?_of_block hh).trans e
theorem Tab.drew {w : World} (h : Tab w) : Tab w.drew := h
theorem Tab.drewN {w : World} (h : Tab w) (n : Nat) : Tab (w.drewN n) := h
end Go.Proofs.YtgkljncigbiffaaDoor

/- What a row that lists the library's table gives: the table lies in its variable; and how such a row starts. Plain facts of this program. No condition. -/
namespace Go.Proofs.YtgkljncigbiffaaDoor
open Go.ChangeShapes Go.WideShapes Go.ChangeAt Go.RowKit
def tabName : String := Rows.tableNoneRow.laid.head!.1
def laid1 : List (String × DataW Unit) := Rows.tableNoneRow.laid
def tabZ : List Int := Lib.deBruijn64tab.map fun (n : Nat) => (n : Int)
theorem gTab : Tryd.prog.globalNamed tabName = some 1 := by kernel_rfl
theorem tTab : (Tryd.prog.globals[1]?).map (·.type) = some 237 := by kernel_rfl
theorem laid1_eq : laid1 = (tabName, Lib.tabData .u8 tabZ) :: [] := by rfl
theorem door_met (os : Os) (args : Array Value) : laidMetH Tryd.prog laid1 ((World.doorLaid Tryd.prog 400 os).forCall (fun _ _ => 0) ⟨#[], args, []⟩).memory :=
  laidMetH_of_parts3 (fuel := 8) (laidMet_of_run' 8 (by kernel_rfl) (by kernel_rfl)) (by kernel_rfl) (by kernel_rfl)
theorem of_laid {W : World} (h : laidMetH Tryd.prog laid1 W) : Tab W := by
  rw [MakeChecks.laidMetH_plain _ _ _ (by kernel_rfl), laid1_eq] at h
  have ht := Lib.tabIs_of_head (k := .u8) (zs := tabZ) gTab tTab Tryd.underlying237 Tryd.underlying5 (by kernel_rfl) (by kernel_rfl) h
  have hc : ∀ j, j < 64 → W.cell? ⟨1, j, none⟩ = some (.int .u8 (Lib.deBruijn64tab.getD j 0 : Nat)) := fun j hj => by
    have := ht.cell gTab j (by unfold tabZ; rw [List.length_map]; exact hj)
    rw [this]
    unfold tabZ
    have hj' : j < Lib.deBruijn64tab.length := hj
    simp [List.getD, hj']
  refine ⟨?_, fun j hj => hc j hj⟩
  have h0 := hc 0 (by omega)
  rcases Nat.lt_or_ge 1 W.heap.size with h1 | h1
  · exact h1
  · exfalso
    unfold World.cell? at h0
    rw [Array.getElem?_eq_none h1] at h0
    simp at h0
end Go.Proofs.YtgkljncigbiffaaDoor

/- Pairs, their bytes, and how they are put into groups for data blocks. Plain facts. No condition. -/
namespace Go
/-! ### Pairs and their bytes -/
abbrev PairT := List UInt8 × List UInt8 × Bool × Unit
def pnone : PairT := ([], [], false, ())
def pbytes (p : PairT) : List UInt8 := UInt8.ofNat p.1.length :: (p.1 ++ (if p.2.2.1 then [255] else UInt8.ofNat p.2.1.length :: p.2.1))
def pok (p : PairT) : Bool := decide (1 ≤ p.1.length) && (decide (p.1.length ≤ 32) && (decide (p.2.1.length ≤ 128) && (!p.2.2.1 || decide (p.2.1.length = 0))))
theorem pok_spec {p : PairT} (h : pok p = true) : 1 ≤ p.1.length ∧ p.1.length ≤ 32 ∧ p.2.1.length ≤ 128 ∧ (p.2.2.1 = true → p.2.1 = []) := by
  unfold pok at h
  simp only [Bool.and_eq_true, decide_eq_true_eq, Bool.or_eq_true, Bool.not_eq_true'] at h
  exact ⟨h.1, h.2.1, h.2.2.1, fun e => by rcases h.2.2.2 with h | h; · rw [e] at h; cases h
                                          · exact List.eq_nil_of_length_eq_zero h⟩
/-- Is each key ahead of the next one? -/
def psorted : List PairT → Bool
  | [] => true
  | a :: l => (match l with | [] => true | b :: _ => decide (a.1 < b.1)) && psorted l
theorem psorted_iff : ∀ (l : List PairT), psorted l = true ↔ ∀ (i : Nat) (h : i + 1 < l.length), (l[i]'(by omega)).1 < l[i + 1].1
  | [] => by simp [psorted]
  | [a] => by simp [psorted]
  | a :: b :: l => by
    rw [psorted, Bool.and_eq_true, decide_eq_true_eq, psorted_iff (b :: l)]
    constructor
    · rintro ⟨h1, h2⟩ i hi
      cases i with
      | zero => exact h1
      | succ i => exact h2 i (by simp only [List.length_cons] at hi ⊢; omega)
    · intro h
      exact ⟨h 0 (by simp), fun i hi => h (i + 1) (by simp only [List.length_cons] at hi ⊢; omega)⟩
theorem bl_trans {a b c : List UInt8} (h : a < b) (k : b < c) : a < c := List.lt_trans h k
theorem bl_irrefl (a : List UInt8) : ¬ a < a := List.lt_irrefl a
theorem bl_asymm {a b : List UInt8} (h : a < b) : ¬ b < a := List.lt_asymm h
theorem bl_total {a b : List UInt8} (h : ¬ a < b) : a = b ∨ b < a := by
  by_cases e : b < a
  · exact .inr e
  · exact .inl (List.le_antisymm (List.not_lt.1 e) (List.not_lt.1 h))
theorem psorted_pair : ∀ {l : List PairT}, psorted l = true → l.Pairwise (fun a b => a.1 < b.1)
  | [], _ => List.Pairwise.nil
  | [a], _ => by simp
  | a :: b :: l, h => by
    rw [psorted, Bool.and_eq_true, decide_eq_true_eq] at h
    have h2 := psorted_pair h.2
    refine List.Pairwise.cons ?_ h2
    intro x hx
    rcases List.mem_cons.1 hx with rfl | hx
    · exact h.1
    · exact bl_trans h.1 (List.rel_of_pairwise_cons h2 hx)
theorem pair_psorted : ∀ {l : List PairT}, l.Pairwise (fun a b => a.1 < b.1) → psorted l = true
  | [], _ => rfl
  | [a], _ => rfl
  | a :: b :: l, h => by
    rw [psorted, Bool.and_eq_true, decide_eq_true_eq]
    obtain ⟨h1, h2⟩ := List.pairwise_cons.1 h
    exact ⟨h1 b (List.mem_cons_self), pair_psorted h2⟩
/-! ### Groups: the data blocks' pairs -/
def gbody (g : List PairT) : List UInt8 := g.flatMap pbytes
def gkey (g : List PairT) : List UInt8 := (g.headD pnone).1
def padd (G : List (List PairT)) (p : PairT) : List (List PairT) :=
  match G.getLast? with
  | none => [[p]]
  | some g => if 860 < (gbody g).length + (pbytes p).length then G ++ [[p]] else G.dropLast ++ [g ++ [p]]
def pgroups (l : List PairT) : List (List PairT) := l.foldl padd []
/-- Of pairs: an error, or the groups. -/
def ppack (l : List PairT) : Int × List (List PairT) := if l = [] ∨ 64 < l.length ∨ psorted l = false ∨ l.all pok = false then (2, []) else (0, pgroups l)
theorem pbytes_length (p : PairT) : (pbytes p).length = p.1.length + 2 + (if p.2.2.1 then 0 else p.2.1.length) := by
  unfold pbytes
  split <;> simp <;> omega
theorem pok_length {p : PairT} (h : pok p = true) : 3 ≤ (pbytes p).length ∧ (pbytes p).length ≤ 162 := by
  obtain ⟨h1, h2, h3, h4⟩ := pok_spec h
  rw [pbytes_length]
  split <;> omega
theorem gbody_append (g k : List PairT) : gbody (g ++ k) = gbody g ++ gbody k := by unfold gbody; rw [List.flatMap_append]
theorem gbody_one (p : PairT) : gbody [p] = pbytes p := by unfold gbody; simp
/-- What stays as pairs are added. -/
structure GrOk (G : List (List PairT)) (l : List PairT) : Prop where
  flat : G.flatten = l
  ne : ∀ g ∈ G, g ≠ []
  small : ∀ g ∈ G, (gbody g).length ≤ 860
  full : ∀ g ∈ G.dropLast, 699 ≤ (gbody g).length
theorem GrOk.nil : GrOk [] [] := ⟨rfl, by simp, by simp, by simp⟩
theorem getLast_split {α : Type} {G : List α} {g : α} (h : G.getLast? = some g) : G = G.dropLast ++ [g] := by
  have hne : G ≠ [] := by intro e; rw [e] at h; cases h
  have := List.dropLast_concat_getLast hne
  rw [List.getLast?_eq_some_getLast hne] at h
  injection h with h
  rw [← h]; exact this.symm
theorem GrOk.add {G : List (List PairT)} {l : List PairT} (h : GrOk G l) {p : PairT} (hp : pok p = true) : GrOk (padd G p) (l ++ [p]) := by
  have hlen := pok_length hp
  unfold padd
  cases hg : G.getLast? with
  | none =>
    have : G = [] := by simpa using hg
    subst this
    have hl : l = [] := by rw [← h.flat]; rfl
    subst hl
    exact ⟨rfl, by simp, by simp [gbody_one]; omega, by simp⟩
  | some g =>
    have hs := getLast_split hg
    have hm : g ∈ G := List.mem_of_getLast? hg
    simp only
    split
    · rename_i hbig
      refine ⟨by rw [List.flatten_append, h.flat]; rfl, ?_, ?_, ?_⟩
      · intro x hx
        rcases List.mem_append.1 hx with hx | hx
        · exact h.ne x hx
        · rw [List.mem_singleton.1 hx]; simp
      · intro x hx
        rcases List.mem_append.1 hx with hx | hx
        · exact h.small x hx
        · rw [List.mem_singleton.1 hx, gbody_one]; omega
      · intro x hx
        rw [List.dropLast_concat] at hx
        rw [hs] at hx
        rcases List.mem_append.1 hx with hx | hx
        · exact h.full x hx
        · rw [List.mem_singleton.1 hx]; omega
    · rename_i hbig
      refine ⟨?_, ?_, ?_, ?_⟩
      · have := h.flat
        rw [hs, List.flatten_append] at this
        rw [List.flatten_append, ← this]
        simp
      · intro x hx
        rcases List.mem_append.1 hx with hx | hx
        · exact h.ne x (List.dropLast_subset _ hx)
        · rw [List.mem_singleton.1 hx]; simp
      · intro x hx
        rcases List.mem_append.1 hx with hx | hx
        · exact h.small x (List.dropLast_subset _ hx)
        · rw [List.mem_singleton.1 hx, gbody_append, gbody_one, List.length_append]; omega
      · intro x hx
        rw [List.dropLast_concat] at hx
        exact h.full x hx
theorem GrOk.all : ∀ (l : List PairT) {G : List (List PairT)} {k : List PairT}, GrOk G k → l.all pok = true → GrOk (l.foldl padd G) (k ++ l)
  | [], _, _, h, _ => by simpa using h
  | p :: l, _, _, h, hp => by
    rw [List.all_cons, Bool.and_eq_true] at hp
    have := GrOk.all l (h.add hp.1) hp.2
    rw [List.append_assoc] at this
    exact this
theorem pgroups_ok {l : List PairT} (h : l.all pok = true) : GrOk (pgroups l) l := GrOk.all l GrOk.nil h
theorem gbody_flatten : ∀ (G : List (List PairT)), (gbody G.flatten).length = (G.map fun g => (gbody g).length).sum
  | [] => rfl
  | g :: G => by rw [List.flatten_cons, gbody_append, List.length_append, gbody_flatten G]; rfl
theorem gbody_bound : ∀ (l : List PairT), l.all pok = true → 3 * l.length ≤ (gbody l).length ∧ (gbody l).length ≤ 162 * l.length
  | [], _ => by simp [gbody]
  | p :: l, h => by
    rw [List.all_cons, Bool.and_eq_true] at h
    have h1 := pok_length h.1
    have h2 := gbody_bound l h.2
    rw [show p :: l = [p] ++ l from rfl, gbody_append, gbody_one, List.length_append, List.length_append, List.length_singleton]
    omega
theorem sum_least : ∀ (G : List Nat) (k : Nat), (∀ x ∈ G, k ≤ x) → k * G.length ≤ G.sum
  | [], _, _ => by simp
  | a :: G, k, h => by
    have h1 := h a (by simp)
    have h2 := sum_least G k (fun x hx => h x (by simp [hx]))
    rw [List.length_cons, List.sum_cons, Nat.mul_add]; omega
/-- There are at most 15 blocks. -/
theorem pgroups_few {l : List PairT} (h : l.all pok = true) (hl : l.length ≤ 64) : (pgroups l).length ≤ 15 := by
  have hG := pgroups_ok h
  have hb := (gbody_bound l h).2
  generalize pgroups l = G at hG
  rcases hq : G.getLast? with _ | g
  · have : G = [] := by simpa using hq
    subst this; simp
  · have hs := getLast_split hq
    have h1 := gbody_flatten G
    rw [hG.flat] at h1
    have h2 := sum_least (G.dropLast.map fun g => (gbody g).length) 699 (fun x hx => by obtain ⟨g, hg, rfl⟩ := List.mem_map.1 hx; exact hG.full g hg)
    rw [hs, List.map_append, List.sum_append] at h1
    rw [List.length_map] at h2
    have h3 : G.length = G.dropLast.length + 1 := by
      have := congrArg List.length hs
      rw [List.length_append, List.length_singleton] at this
      exact this
    omega
theorem pgroups_ne {l : List PairT} (h : l.all pok = true) (hl : l ≠ []) : pgroups l ≠ [] := fun e => by
  have := (pgroups_ok h).flat
  rw [e] at this
  exact hl this.symm
end Go

/- The bytes of a data block and of an index block, read. Plain facts. No condition. -/
namespace Go
/-! ### A data block's bytes, read -/
def pval (k : List UInt8) : List UInt8 → Option (PairT × List UInt8)
  | [] => none
  | m :: s => if m = 255 then some ((k, [], true, ()), s) else if s.length < m.toNat then none else some ((k, s.take m.toNat, false, ()), s.drop m.toNat)
def ptake : List UInt8 → Option (PairT × List UInt8)
  | [] => none
  | n :: r => if r.length ≤ n.toNat then none else pval (r.take n.toNat) (r.drop n.toNat)
theorem ptake_cons (n : UInt8) (r : List UInt8) : ptake (n :: r) = if r.length ≤ n.toNat then none else pval (r.take n.toNat) (r.drop n.toNat) := rfl
theorem pval_cons (k : List UInt8) (m : UInt8) (s : List UInt8) : pval k (m :: s) = if m = 255 then some ((k, [], true, ()), s) else if s.length < m.toNat then none else some ((k, s.take m.toNat, false, ()), s.drop m.toNat) := rfl
theorem pval_len {k b s : List UInt8} {p : PairT} (h : pval k b = some (p, s)) : s.length < b.length := by
  cases b with
  | nil => cases h
  | cons m r =>
    rw [pval_cons] at h
    split at h
    · injection h with h; injection h with h1 h2; subst h2; simp
    · split at h
      · cases h
      · injection h with h; injection h with h1 h2; subst h2; rw [List.length_cons, List.length_drop]; omega
theorem ptake_len {b s : List UInt8} {p : PairT} (h : ptake b = some (p, s)) : s.length < b.length := by
  cases b with
  | nil => cases h
  | cons n r =>
    rw [ptake_cons] at h
    split at h
    · cases h
    · have := pval_len h
      rw [List.length_drop] at this
      rw [List.length_cons]; omega
/-- The pairs of bytes. -/
def pparse : Nat → List UInt8 → Option (List PairT)
  | _, [] => some []
  | 0, _ :: _ => none
  | f + 1, n :: r => match ptake (n :: r) with
    | none => none
    | some (p, s) => if pok p = true then (match pparse f s with | none => none | some l => some (p :: l)) else none
theorem pparse_fuel : ∀ (f f' : Nat) (b : List UInt8), b.length ≤ f → b.length ≤ f' → pparse f b = pparse f' b
  | f, f', [], _, _ => by cases f <;> cases f' <;> rfl
  | 0, _, _ :: _, h, _ => by simp at h
  | _ + 1, 0, _ :: _, _, h => by simp at h
  | f + 1, f' + 1, n :: r, h, h' => by
    unfold pparse
    cases ht : ptake (n :: r) with
    | none => rfl
    | some x =>
      obtain ⟨p, s⟩ := x
      have hl := ptake_len ht
      simp only
      rw [pparse_fuel f f' s (by omega) (by omega)]
def parse (b : List UInt8) : Option (List PairT) := pparse b.length b
theorem parse_nil : parse [] = some [] := rfl
theorem parse_none {b : List UInt8} (hb : b ≠ []) (h : ptake b = none) : parse b = none := by
  cases b with
  | nil => exact absurd rfl hb
  | cons n r =>
    unfold parse
    rw [List.length_cons]
    unfold pparse
    rw [h]
theorem parse_bad {b s : List UInt8} {p : PairT} (h : ptake b = some (p, s)) (hp : pok p = false) : parse b = none := by
  cases b with
  | nil => cases h
  | cons n r =>
    unfold parse
    rw [List.length_cons]
    unfold pparse
    rw [h]
    simp only
    rw [if_neg (by rw [hp]; simp)]
theorem parse_some {b s : List UInt8} {p : PairT} (h : ptake b = some (p, s)) (hp : pok p = true) : parse b = (parse s).map (p :: ·) := by
  cases b with
  | nil => cases h
  | cons n r =>
    have hl := ptake_len h
    show pparse (r.length + 1) (n :: r) = (pparse s.length s).map (p :: ·)
    rw [show pparse (r.length + 1) (n :: r) = (match ptake (n :: r) with | none => none | some (p, s) => if pok p = true then (match pparse r.length s with | none => none | some l => some (p :: l)) else none) from rfl, h]
    simp only
    rw [if_pos hp, pparse_fuel r.length s.length s (by rw [List.length_cons] at hl; omega) (Nat.le_refl _)]
    generalize pparse s.length s = x
    cases x <;> rfl
/-- What has been taken, and what is left: what it comes to. -/
def pfin (o : List PairT) (s : List UInt8) : Int × List PairT :=
  match parse s with
  | none => (13, [])
  | some l => if o ++ l = [] ∨ psorted (o ++ l) = false then (13, []) else (0, o ++ l)
def punpack (b : List UInt8) : Int × List PairT := pfin [] b
theorem pfin_none {o : List PairT} {s : List UInt8} (h : parse s = none) : pfin o s = (13, []) := by unfold pfin; rw [h]
theorem pfin_step {o : List PairT} {s s' : List UInt8} {p : PairT} (h : ptake s = some (p, s')) (hp : pok p = true) : pfin o s = pfin (o ++ [p]) s' := by
  unfold pfin
  rw [parse_some h hp]
  cases parse s' with
  | none => rfl
  | some l => simp only [Option.map_some, List.append_assoc, List.singleton_append]
theorem pfin_end (o : List PairT) : pfin o [] = if o = [] ∨ psorted o = false then (13, []) else (0, o) := by
  unfold pfin
  rw [parse_nil]
  simp only [List.append_nil]
theorem ofNat_toNat {n : Nat} (h : n < 256) : (UInt8.ofNat n).toNat = n := by simp [UInt8.toNat_ofNat']; omega
theorem ptake_pbytes {p : PairT} (h : pok p = true) (s : List UInt8) : ptake (pbytes p ++ s) = some (p, s) := by
  obtain ⟨h1, h2, h3, h4⟩ := pok_spec h
  obtain ⟨k, v, g, u⟩ := p
  simp only at h1 h2 h3 h4
  unfold pbytes
  simp only [List.cons_append]
  rw [ptake_cons, ofNat_toNat (by omega)]
  cases g
  · simp only [Bool.false_eq_true, if_false, List.append_assoc, List.cons_append]
    rw [if_neg (by simp), List.drop_left, List.take_left, pval_cons, if_neg (by intro e; have := congrArg UInt8.toNat e; rw [ofNat_toNat (by omega)] at this; have : v.length = 255 := this; omega), ofNat_toNat (by omega), if_neg (by simp), List.take_left, List.drop_left]
  · have := h4 rfl
    subst this
    simp only [if_true, List.append_assoc, List.cons_append, List.nil_append]
    rw [if_neg (by simp), List.drop_left, List.take_left, pval_cons, if_pos rfl]
theorem parse_gbody : ∀ (g : List PairT), g.all pok = true → parse (gbody g) = some g
  | [], _ => rfl
  | p :: g, h => by
    rw [List.all_cons, Bool.and_eq_true] at h
    rw [show p :: g = [p] ++ g from rfl, gbody_append, gbody_one, parse_some (ptake_pbytes h.1 _) h.1, parse_gbody g h.2]
    rfl
theorem punpack_gbody {g : List PairT} (h : g.all pok = true) (hs : psorted g = true) (hne : g ≠ []) : punpack (gbody g) = (0, g) := by
  unfold punpack pfin
  rw [parse_gbody g h]
  simp only [List.nil_append]
  rw [if_neg (by rw [hs]; simp [hne])]
/-! ### An index block's bytes, read -/
def kbytes (ks : List (List UInt8)) : List UInt8 := ks.flatMap fun k => UInt8.ofNat k.length :: k
def kparseF : Nat → List UInt8 → Option (List (List UInt8))
  | _, [] => some []
  | 0, _ :: _ => none
  | f + 1, n :: r => if r.length < n.toNat then none else (match kparseF f (r.drop n.toNat) with | none => none | some l => some (r.take n.toNat :: l))
theorem kparse_fuel : ∀ (f f' : Nat) (b : List UInt8), b.length ≤ f → b.length ≤ f' → kparseF f b = kparseF f' b
  | f, f', [], _, _ => by cases f <;> cases f' <;> rfl
  | 0, _, _ :: _, h, _ => by simp at h
  | _ + 1, 0, _ :: _, _, h => by simp at h
  | f + 1, f' + 1, n :: r, h, h' => by
    unfold kparseF
    simp only [List.length_cons] at h h'
    rw [kparse_fuel f f' (r.drop n.toNat) (by rw [List.length_drop]; omega) (by rw [List.length_drop]; omega)]
def kparse (b : List UInt8) : Option (List (List UInt8)) := kparseF b.length b
theorem kparse_nil : kparse [] = some [] := rfl
theorem kparse_none {n : UInt8} {r : List UInt8} (h : r.length < n.toNat) : kparse (n :: r) = none := by
  unfold kparse
  rw [List.length_cons]
  unfold kparseF
  rw [if_pos h]
theorem kparse_some {n : UInt8} {r : List UInt8} (h : n.toNat ≤ r.length) : kparse (n :: r) = (kparse (r.drop n.toNat)).map (r.take n.toNat :: ·) := by
  unfold kparse
  rw [List.length_cons]
  conv => lhs; unfold kparseF
  rw [if_neg (by omega), kparse_fuel r.length (r.drop n.toNat).length _ (by rw [List.length_drop]; omega) (Nat.le_refl _)]
  cases kparseF (r.drop n.toNat).length (r.drop n.toNat) <;> rfl
theorem kparse_kbytes : ∀ (ks : List (List UInt8)), (∀ k ∈ ks, k.length < 256) → kparse (kbytes ks) = some ks
  | [], _ => rfl
  | k :: ks, h => by
    have hk := h k (by simp)
    have e : kbytes (k :: ks) = UInt8.ofNat k.length :: (k ++ kbytes ks) := by unfold kbytes; simp
    rw [e, kparse_some (by rw [ofNat_toNat hk]; simp), ofNat_toNat hk]
    simp only [List.drop_left, List.take_left]
    rw [kparse_kbytes ks (fun x hx => h x (by simp [hx]))]
    rfl
/-- What has been taken of an index, and what is left. -/
def kfin (o : List (List UInt8)) (s : List UInt8) : Option (List (List UInt8)) := (kparse s).map (o ++ ·)
theorem kfin_step {o : List (List UInt8)} {n : UInt8} {r : List UInt8} (h : n.toNat ≤ r.length) : kfin o (n :: r) = kfin (o ++ [r.take n.toNat]) (r.drop n.toNat) := by
  unfold kfin
  rw [kparse_some h]
  cases kparse (r.drop n.toNat) <;> simp
end Go

/- Sorted pairs in groups: a key is looked for, what lies between two keys. Plain facts. No condition. -/
namespace Go
/-! ### A sorted list in groups -/
/-- How many of the keys are not behind this one. -/
def kbef (ks : List (List UInt8)) (key : List UInt8) : Nat := ks.countP fun k => !decide (key < k)
def pfind (l : List PairT) (key : List UInt8) : Option PairT := l.find? fun p => decide (p.1 = key)
theorem countP_at {ks : List (List UInt8)} {key : List UInt8} {j : Nat} (hj : j < ks.length) (h1 : ∀ i (h : i < ks.length), i ≤ j → ¬ key < ks[i]) (h2 : ∀ i (h : i < ks.length), j < i → key < ks[i]) : kbef ks key = j + 1 := by
  unfold kbef
  rw [← List.take_append_drop (j + 1) ks, List.countP_append]
  have e1 : (ks.take (j + 1)).countP (fun k => !decide (key < k)) = (ks.take (j + 1)).length := by
    rw [List.countP_eq_length]
    intro k hk
    obtain ⟨i, hi, rfl⟩ := List.mem_iff_getElem.1 hk
    rw [List.length_take] at hi
    rw [List.getElem_take]
    have := h1 i (by omega) (by omega)
    simpa using this
  have e2 : (ks.drop (j + 1)).countP (fun k => !decide (key < k)) = 0 := by
    rw [List.countP_eq_zero]
    intro k hk
    obtain ⟨i, hi, rfl⟩ := List.mem_iff_getElem.1 hk
    rw [List.length_drop] at hi
    rw [List.getElem_drop]
    have := h2 (j + 1 + i) (by omega) (by omega)
    simpa using this
  rw [e1, e2, List.length_take]; omega
/-- Sorted pairs in groups, none of which is empty. -/
structure GrSo (G : List (List PairT)) : Prop where
  so : G.flatten.Pairwise (fun a b => a.1 < b.1)
  ne : ∀ g ∈ G, g ≠ []
theorem GrSo.tail {g : List PairT} {G : List (List PairT)} (h : GrSo (g :: G)) : GrSo G :=
  ⟨by have := h.so; rw [List.flatten_cons] at this; exact (List.pairwise_append.1 this).2.1, fun x hx => h.ne x (by simp [hx])⟩
theorem GrSo.group {G : List (List PairT)} (h : GrSo G) : ∀ g ∈ G, g.Pairwise (fun a b => a.1 < b.1) := fun g hg => (List.pairwise_flatten.1 h.so).1 g hg
theorem GrSo.apart {G : List (List PairT)} (h : GrSo G) {i j : Nat} (hi : i < j) (hj : j < G.length) : ∀ a ∈ G[i]'(by omega), ∀ b ∈ G[j], a.1 < b.1 := by
  have := (List.pairwise_flatten.1 h.so).2
  exact List.pairwise_iff_getElem.1 this i j (by omega) hj hi
theorem gkey_mem {g : List PairT} (h : g ≠ []) : ∃ a ∈ g, gkey g = a.1 := by
  cases g with
  | nil => exact absurd rfl h
  | cons a g => exact ⟨a, by simp, rfl⟩
theorem gkey_least {g : List PairT} (h : g.Pairwise (fun a b => a.1 < b.1)) {a : PairT} (ha : a ∈ g) : ¬ a.1 < gkey g := by
  cases g with
  | nil => cases ha
  | cons b g =>
    rcases List.mem_cons.1 ha with rfl | ha
    · exact bl_irrefl _
    · exact bl_asymm (List.rel_of_pairwise_cons h ha)
theorem GrSo.keys {G : List (List PairT)} (h : GrSo G) {i j : Nat} (hi : i < j) (hj : j < G.length) : gkey (G[i]'(by omega)) < gkey G[j] := by
  obtain ⟨a, ha, ea⟩ := gkey_mem (h.ne _ (List.getElem_mem (show i < G.length by omega)))
  obtain ⟨b, hb, eb⟩ := gkey_mem (h.ne _ (List.getElem_mem hj))
  rw [ea, eb]
  exact h.apart hi hj a ha b hb
theorem GrSo.mono {G : List (List PairT)} (h : GrSo G) (key : List UInt8) {a b : Nat} (hab : a ≤ b) (hb : b < G.length) (hk : key < gkey (G[a]'(by omega))) : key < gkey G[b] := by
  rcases Nat.eq_or_lt_of_le hab with e | e
  · subst e; exact hk
  · exact bl_trans hk (h.keys e hb)
theorem pfind_none {l : List PairT} {key : List UInt8} (h : ∀ p ∈ l, p.1 ≠ key) : pfind l key = none := by
  unfold pfind
  rw [List.find?_eq_none]
  intro p hp
  simpa using h p hp
theorem pfind_some {l : List PairT} {key : List UInt8} (hs : l.Pairwise (fun a b => a.1 < b.1)) {p : PairT} (hp : p ∈ l) (hk : p.1 = key) : pfind l key = some p := by
  induction l with
  | nil => cases hp
  | cons a l ih =>
    unfold pfind
    rw [List.find?_cons]
    rcases List.mem_cons.1 hp with rfl | hm
    · rw [hk]; simp
    · have := List.rel_of_pairwise_cons hs hm
      rw [decide_eq_false (by intro e; rw [e, ← hk] at this; exact bl_irrefl _ this)]
      exact ih (List.pairwise_cons.1 hs).2 hm
theorem kbef_at {G : List (List PairT)} (h : GrSo G) {j : Nat} (hj : j < G.length) {x : PairT} (hx : x ∈ G[j]) : kbef (G.map gkey) x.1 = j + 1 := by
  refine countP_at (by rw [List.length_map]; exact hj) (fun i hi hij => ?_) (fun i hi hij => ?_)
  · rw [List.getElem_map]
    rw [List.length_map] at hi
    rcases Nat.eq_or_lt_of_le hij with e | e
    · subst e; exact gkey_least (h.group _ (List.getElem_mem hi)) hx
    · intro hk
      obtain ⟨a, ha, ea⟩ := gkey_mem (h.ne _ (List.getElem_mem hi))
      rw [ea] at hk
      exact bl_asymm hk (h.apart e hj a ha x hx)
  · rw [List.getElem_map]
    rw [List.length_map] at hi
    obtain ⟨b, hb, eb⟩ := gkey_mem (h.ne _ (List.getElem_mem hi))
    rw [eb]
    exact h.apart hij hi x hx b hb
theorem kbef_le (ks : List (List UInt8)) (key : List UInt8) : kbef ks key ≤ ks.length := List.countP_le_length
/-- A key's pair, looked for in the group that alone may have it. -/
theorem find_groups {G : List (List PairT)} (h : GrSo G) (key : List UInt8) : pfind G.flatten key = if kbef (G.map gkey) key = 0 then none else pfind (G.getD (kbef (G.map gkey) key - 1) []) key := by
  by_cases hx : ∃ x ∈ G.flatten, x.1 = key
  · obtain ⟨x, hx, rfl⟩ := hx
    obtain ⟨g, hg, hxg⟩ := List.mem_flatten.1 hx
    obtain ⟨j, hj, rfl⟩ := List.mem_iff_getElem.1 hg
    rw [kbef_at h hj hxg, if_neg (by omega), Nat.add_sub_cancel, pfind_some h.so hx rfl, List.getD_eq_getElem?_getD, List.getElem?_eq_getElem hj, Option.getD_some, pfind_some (h.group _ hg) hxg rfl]
  · have hn : ∀ p ∈ G.flatten, p.1 ≠ key := fun p hp e => hx ⟨p, hp, e⟩
    rw [pfind_none hn]
    split
    · rfl
    · rename_i h0
      refine (pfind_none fun p hp => hn p ?_).symm
      have := kbef_le (G.map gkey) key
      rw [List.length_map] at this
      rw [List.getD_eq_getElem?_getD, List.getElem?_eq_getElem (by omega), Option.getD_some] at hp
      exact List.mem_flatten.2 ⟨_, List.getElem_mem (by omega), hp⟩
/-- Between two keys. -/
def pbelow (to key : List UInt8) : Bool := decide (to = []) || decide (key < to)
def inside (fr to : List UInt8) (p : PairT) : Bool := !decide (p.1 < fr) && pbelow to p.1
def used (ks : List (List UInt8)) (fr to : List UInt8) (i : Nat) : Bool := pbelow to (ks.getD i []) && (decide (i + 1 = ks.length) || decide (fr < ks.getD (i + 1) []))
theorem unused {G : List (List PairT)} (h : GrSo G) {fr to : List UInt8} {i : Nat} (hi : i < G.length) (hu : used (G.map gkey) fr to i = false) : (G[i]).filter (inside fr to) = [] := by
  rw [List.filter_eq_nil_iff]
  intro x hx
  unfold used at hu
  rw [Bool.and_eq_false_iff] at hu
  unfold inside
  rcases hu with hu | hu
  · rw [List.getD_eq_getElem?_getD, List.getElem?_map, List.getElem?_eq_getElem hi, Option.map_some, Option.getD_some] at hu
    unfold pbelow at hu ⊢
    rw [Bool.or_eq_false_iff, decide_eq_false_iff_not, decide_eq_false_iff_not] at hu
    have hb := gkey_least (h.group _ (List.getElem_mem hi)) hx
    have : ¬ x.1 < to := fun e => by
      rcases bl_total hb with e1 | e1
      · rw [e1] at e; exact hu.2 e
      · exact hu.2 (bl_trans e1 e)
    rw [decide_eq_false hu.1, decide_eq_false this]
    simp
  · rw [Bool.or_eq_false_iff, decide_eq_false_iff_not, decide_eq_false_iff_not] at hu
    obtain ⟨h1, h2⟩ := hu
    rw [List.length_map] at h1
    have hj : i + 1 < G.length := by omega
    rw [List.getD_eq_getElem?_getD, List.getElem?_map, List.getElem?_eq_getElem hj, Option.map_some, Option.getD_some] at h2
    obtain ⟨b, hb, eb⟩ := gkey_mem (h.ne _ (List.getElem_mem hj))
    have hxb := h.apart (Nat.lt_succ_self i) hj x hx b hb
    rw [← eb] at hxb
    have : x.1 < fr := by
      rcases bl_total h2 with e1 | e1
      · rw [e1]; exact hxb
      · exact bl_trans hxb e1
    rw [decide_eq_true this]
    simp
theorem flatMap_getD {α β : Type} (f : List α → List β) : ∀ (G : List (List α)), (List.range G.length).flatMap (fun i => f (G.getD i [])) = G.flatMap f
  | [] => rfl
  | g :: G => by
    rw [List.length_cons, List.range_succ_eq_map, List.flatMap_cons, List.flatMap_cons, List.flatMap_map]
    congr 1
    exact flatMap_getD f G
theorem between_groups {G : List (List PairT)} (h : GrSo G) (fr to : List UInt8) : (List.range G.length).flatMap (fun i => if used (G.map gkey) fr to i = true then (G.getD i []).filter (inside fr to) else []) = G.flatten.filter (inside fr to) := by
  rw [List.filter_flatten, ← List.flatMap_def, ← flatMap_getD (fun g => g.filter (inside fr to)) G]
  unfold List.flatMap
  congr 1
  refine List.map_congr_left fun i hi => ?_
  have hi := List.mem_range.1 hi
  split
  · rfl
  · rename_i hu
    rw [List.getD_eq_getElem?_getD, List.getElem?_eq_getElem hi, Option.getD_some]
    exact (unused h hi (by simpa using hu)).symm
end Go

/- bytes.Compare: two lists of bytes in order. Conditions: the bytes can be read. -/
namespace Go
open Go.RowKit
theorem bytesOf_iu8 (l : List UInt8) : Lib.bytesOf (l.map iu8) = l := by
  unfold Lib.bytesOf
  rw [List.map_map]
  refine (List.map_congr_left fun b _ => ?_).trans (List.map_id l)
  simp [iu8]
theorem run_bytesOf {P : Program} {w : World} {A : Option Addr} {l : List UInt8} (n c : Nat) (hn : n = l.length) (h : Bytes w A l) : (Extern.Bytes.bytesOf (.slice A n c)).run P w = .ok (str l) w := by
  subst hn
  cases A with
  | none =>
    cases l with
    | nil => rfl
    | cons x t => obtain ⟨b, off, e, _⟩ := h.at_ (by simp); cases e
  | some a =>
    unfold Extern.Bytes.bytesOf
    have hl := Lib.run_loadBytesX (P := P) w (l.map iu8) a .empty (fun j x hj => by
      have hj2 : j < l.length := by
        have := (List.getElem?_eq_some_iff.1 hj).1
        simpa using this
      obtain ⟨b, off, e, _, hc⟩ := h.at_ (by omega)
      injection e with e
      subst e
      rw [Addr.add_lit, hc j hj2]
      rw [List.getElem?_map, List.getElem?_eq_getElem hj2, Option.map_some] at hj
      injection hj with hj
      rw [← hj, List.getD_eq_getElem?_getD, List.getElem?_eq_getElem hj2, Option.getD_some])
    rw [List.length_map] at hl
    rw [hl, bytesOf_iu8]
    congr 1
    apply ByteArray.ext
    show (#[] : Array UInt8) ++ l.toArray = l.toArray
    simp
theorem cmp_neg : ∀ (a b : List UInt8), (Lib.compareBytes a b < 0) ↔ a < b
  | [], [] => by simp [Lib.compareBytes]
  | [], _ :: _ => by simp [Lib.compareBytes]
  | _ :: _, [] => by simp [Lib.compareBytes]
  | a :: x, b :: y => by
    unfold Lib.compareBytes
    rw [List.cons_lt_cons_iff]
    by_cases h1 : a < b
    · simp [h1]
    · by_cases h2 : b < a
      · have : a ≠ b := fun e => by subst e; exact h1 h2
        simp [h1, h2, this]
      · have : a = b := by
          apply UInt8.toNat_inj.1
          rw [UInt8.lt_iff_toNat_lt] at h1 h2
          omega
        subst this
        simp [h1, cmp_neg x y]
theorem cmp_pos : ∀ (a b : List UInt8), (0 < Lib.compareBytes a b) ↔ b < a
  | [], [] => by simp [Lib.compareBytes]
  | [], _ :: _ => by simp [Lib.compareBytes]
  | _ :: _, [] => by simp [Lib.compareBytes]
  | a :: x, b :: y => by
    unfold Lib.compareBytes
    rw [List.cons_lt_cons_iff]
    by_cases h1 : a < b
    · have : ¬ b < a := by rw [UInt8.lt_iff_toNat_lt] at h1 ⊢; omega
      have h3 : b ≠ a := fun e => by subst e; exact this h1
      simp [h1, this, h3]
    · by_cases h2 : b < a
      · simp [h1, h2]
      · have : a = b := by
          apply UInt8.toNat_inj.1
          rw [UInt8.lt_iff_toNat_lt] at h1 h2
          omega
        subst this
        simp [h1, cmp_pos x y]
theorem cmp_lt0 (a b : List UInt8) : decide (Lib.compareBytes a b < 0) = decide (a < b) := decide_eq_decide.2 (cmp_neg a b)
theorem cmp_gt0 (a b : List UInt8) : decide (Lib.compareBytes a b > 0) = decide (b < a) := decide_eq_decide.2 (cmp_pos a b)
theorem cmp_ge0 (a b : List UInt8) : decide (Lib.compareBytes a b ≥ 0) = !decide (a < b) := by
  rw [← cmp_lt0]
  by_cases h : Lib.compareBytes a b < 0
  · rw [decide_eq_true h, decide_eq_false (by omega)]; rfl
  · rw [decide_eq_false h, decide_eq_true (by omega)]; rfl
namespace Proofs.YtgkljncigbiffaaDoor
set_option maxRecDepth 100000 in
set_option maxHeartbeats 1000000 in
theorem compare_any (A B : Option Addr) (n m c d : Nat) (l l' : List UInt8) (hn : n = l.length) (hm : m = l'.length) (w : World) (h : Bytes w A l) (h' : Bytes w B l') :
    Calls Tryd.prog 56 #[.slice A n c, .slice B m d] w fun e w' => e = .returned (.int .i64 (Lib.compareBytes l l')) ∧ w' = w := by
  subst hn hm
  have H := Lib.hid (And.intro h h')
  clear h h'
  go_enter Tryd.func56, Tryd.ntmps56
  go_wp2
  have hr : (Extern.BytealgCompare.compare #[.slice A l.length c, .slice B l'.length d]).run Tryd.prog w = .ok (.int .i64 (Lib.compareBytes l l')) w := by
    change Sem.run Tryd.prog (do pure (goInt (Extern.BytealgCompare.cmp (← Extern.Bytes.bytesOf (.slice A l.length c)) (← Extern.Bytes.bytesOf (.slice B l'.length d))))) w = _
    simp only [Sem.run_bind, Sem.run_pure, run_bytesOf (P := Tryd.prog) l.length c rfl H.out.1, run_bytesOf (P := Tryd.prog) l'.length d rfl H.out.2, Result.andThen_ok, Lib.cmp_eq]
    rfl
  rw [run_callFunc_extern Tryd.func105 (by kernel_rfl) (by kernel_rfl) (by kernel_rfl) (e := Extern.BytealgCompare.compare) (by kernel_rfl), hr]
  simp only [Result.andThen]
  rw [Oper.upon_value]
  go_wp2
  go_ret
  exact ⟨rfl, rfl⟩
end Proofs.YtgkljncigbiffaaDoor
end Go
