/- A region that draws its order: a head whose operations, calls among them, yield one value in every world of a class and stay in the class, and behind it a few operations in one forced order. Plain facts over any program. No condition. -/
import Derived.Test.YtmhfehhpfkjloaaMSuperblockKnown1
import Derived.Deep.MidRow
import Derived.OrdersIn
import Derived.MapKept
namespace Go
section
variable {P : Program} {ops : Array Oper} {md : Region.Mode} {C : World → Prop} {n : Nat}

/-! The head 'hs' and the tail 'ts' are told by lists of places; others have come up before. -/
def Region.linkB (md : Region.Mode) (ops : Array Oper) : List Nat → Bool
  | t :: t' :: r => Region.waitsFor md ops t' t && Region.linkB md ops (t' :: r)
  | _ => true
/-- Each place of the head is waited for by a later one of the head, or by the tail's first. -/
def Region.sinkL (md : Region.Mode) (ops : Array Oper) (hs : List Nat) (t : Nat) : Bool := hs.all fun i => (t :: hs).any fun j => decide (i < j) && Region.waitsFor md ops j i
/-- What has come up is closed under what it waits for; the tail has not come up. -/
structure ListInv (md : Region.Mode) (ops : Array Oper) (hs ts : List Nat) (s : Array Bool) : Prop where
  size : s.size = ops.size
  closed : ∀ j oj, ops[j]? = some oj → s.getD j false = true → ∀ e ∈ oj.after, Region.binds md e = true → s.getD e.on false = true
  tail : ∀ t ∈ ts, s.getD t true = false
  cover : ∀ j, j < ops.size → s.getD j true = false → j ∈ hs ∨ j ∈ ts
theorem ListInv.set {hs ts : List Nat} {s : Array Bool} {i : Nat} (inv : ListInv md ops hs ts s) (hi : i ∈ Region.ready md ops s) (hn : i ∉ ts) : ListInv md ops hs ts (s.setIfInBounds i true) := by
  obtain ⟨_, oi, hoi, hall⟩ := mem_ready.1 hi
  refine ⟨by simp [inv.size], fun j oj hj hl e he hb => ?_, fun t ht => ?_, fun j hj hu => ?_⟩
  · by_cases hij : i = j
    · have e2 : oj = oi := Option.some.inj (hj.symm.trans (hij ▸ hoi))
      rw [e2] at he
      exact getD_set_true (hall e he hb)
    · rw [getD_set_ne false hij] at hl
      exact getD_set_true (inv.closed j oj hj hl e he hb)
  · have hne : i ≠ t := fun e => hn (e ▸ ht)
    rw [getD_set_ne true hne]; exact inv.tail t ht
  · by_cases hij : i = j
    · rw [← hij] at hj hu
      have : i < s.size := by rw [inv.size]; exact hj
      simp [this] at hu
    · rw [getD_set_ne true hij] at hu; exact inv.cover j hj hu
/-- As long as one of the head has not come up none of the tail is ready. -/
theorem tail_late {hs : List Nat} {t0 : Nat} {ts : List Nat} {s : Array Bool} (hsk : Region.sinkL md ops hs t0 = true) (hlk : Region.linkB md ops (t0 :: ts) = true)
    (hlt : ∀ i ∈ hs, i < ops.size) (inv : ListInv md ops hs (t0 :: ts) s) :
    ∀ (d i : Nat), ops.size - i = d → i ∈ hs → s.getD i true = false → ∀ t ∈ t0 :: ts, t ∉ Region.ready md ops s := by
  intro d
  induction d using Nat.strongRecOn with
  | _ d ih =>
    intro i hd hi hun t ht hr
    by_cases e0 : t = t0
    · have h1 := List.all_eq_true.1 hsk i hi
      obtain ⟨j, hj, hj2⟩ := List.any_eq_true.1 h1
      simp only [Bool.and_eq_true, decide_eq_true_eq] at hj2
      obtain ⟨oj, hoj, e, he, hb, hon⟩ := Region.waitsFor_spec hj2.2
      have hjlt : j < ops.size := (Array.getElem?_eq_some_iff.1 hoj).1
      by_cases ejt : j = t0
      · obtain ⟨_, o2, ho2, hall⟩ := mem_ready.1 hr
        rw [e0, ← ejt] at ho2
        have : o2 = oj := Option.some.inj (ho2.symm.trans hoj)
        rw [this] at hall
        have h2 := hall e he hb
        rw [hon, getD_both hun] at h2
        cases h2
      · have hjh : j ∈ hs := by
          rcases List.mem_cons.1 hj with h | h
          · exact absurd h ejt
          · exact h
        cases hl : s.getD j false with
        | true =>
          have h2 := inv.closed j oj hoj hl e he hb
          rw [hon, getD_both hun] at h2
          cases h2
        | false =>
          have hjs : j < s.size := by rw [inv.size]; exact hjlt
          exact ih (ops.size - j) (by have := hlt i hi; omega) j rfl hjh (getD_in hjs hl) t ht hr
    · have hts : t ∈ ts := by
        rcases List.mem_cons.1 ht with h | h
        · exact absurd h e0
        · exact h
      have key : ∀ (l : List Nat) (p : Nat), Region.linkB md ops (p :: l) = true → t ∈ l → ∃ q, (q = p ∨ q ∈ l) ∧ Region.waitsFor md ops t q = true := by
        intro l
        induction l with
        | nil => intro p _ h; cases h
        | cons x l ih2 =>
          intro p hp h
          simp only [Region.linkB, Bool.and_eq_true] at hp
          rcases List.mem_cons.1 h with h | h
          · exact ⟨p, .inl rfl, by rw [h]; exact hp.1⟩
          · obtain ⟨q, hq, hw⟩ := ih2 x hp.2 h
            refine ⟨q, .inr ?_, hw⟩
            rcases hq with rfl | hq
            · simp
            · simp [hq]
      obtain ⟨q, hq, hw⟩ := key ts t0 hlk hts
      obtain ⟨ot, hot, e, he, hb, hon⟩ := Region.waitsFor_spec hw
      obtain ⟨_, o2, ho2, hall⟩ := mem_ready.1 hr
      have : o2 = ot := Option.some.inj (ho2.symm.trans hot)
      rw [this] at hall
      have h2 := hall e he hb
      have hqu : s.getD q true = false := inv.tail q (by rcases hq with rfl | hq <;> simp [*])
      rw [hon, getD_both hqu] at h2
      cases h2


/-- f operations of the head come up next, in whatever order; behind them L. -/
def HeadC (P : Program) (md : Region.Mode) (ops : Array Oper) (C : World → Prop) (L : Array Bool → Act → Prop) : Nat → Array Bool → Act → Prop
  | 0, s, a => L s a
  | f + 1, s, a => Region.ready md ops s ≠ [] ∧ ∀ i ∈ Region.ready md ops s, qOp P ops C i (HeadC P md ops C L f (s.setIfInBounds i true)) a

theorem any_of_headC {g : Nat} {L : Array Bool → Act → Prop} {Q : Exit → Act → World → Prop} (hL : ∀ s a w, C w → L s a → wpAny P md ops Q g s a w) (f : Nat) :
    ∀ (s : Array Bool) (a : Act) (w : World), C w → HeadC P md ops C L f s a → wpAny P md ops Q (f + g) s a w := by
  induction f with
  | zero => intro s a w hw h; rw [Nat.zero_add]; exact hL s a w hw h
  | succ f ih =>
    intro s a w hw h
    have e : f + 1 + g = (f + g) + 1 := by omega
    rw [e]
    exact ⟨fun h0 => absurd h0 h.1, fun i hi => wpOp_of_qOp hw (fun a' w' hw' h' => ih _ a' w' hw' h') (h.2 i hi)⟩

/-- An operation that is ready and yields its value in the whole class may be taken first. -/
theorem headC_first {hs ts : List Nat} {t0 i : Nat} {oi : Oper} {v : Value} {L : Array Bool → Act → Prop} (hi : ops[i]? = some oi) (hns : Region.noSelect ops = true)
    (hsk : Region.sinkL md ops hs t0 = true) (hlk : Region.linkB md ops (t0 :: ts) = true) (hlt : ∀ i ∈ hs, i < ops.size) (hdis : ∀ i ∈ hs, i ∉ t0 :: ts) (hin : i ∈ hs)
    (hL : ∀ s a, L s a → ∀ j ∈ Region.ready md ops s, j ∈ t0 :: ts) (f : Nat) :
    ∀ (s : Array Bool) (a : Act), ListInv md ops hs (t0 :: ts) s →
      (∀ j oj, ops[j]? = some oj → j ≠ i → s.getD j true = false → (∀ e ∈ oj.after, Region.binds md e = true → e.on ≠ i) → oi.apart ops oj = true) →
      i ∈ Region.ready md ops s → YieldsIn P ops C oi v a →
      HeadC P md ops C L f (s.setIfInBounds i true) (a.put oi.dst v) → HeadC P md ops C L (f + 1) s a := by
  have sel := fun (j : Nat) (o : Oper) cs b => Region.noSelect_spec hns j o cs b
  induction f with
  | zero =>
    intro s a inv _ hr hy H
    refine ⟨fun h => (by rw [h] at hr; cases hr), fun j hj => ?_⟩
    by_cases e : j = i
    · rw [e]; exact hy.qOp hi H
    · exact absurd hj (tail_late hsk hlk hlt inv _ i rfl hin (mem_ready.1 hr).1 j (hL _ _ H j (ready_mono hj e)))
  | succ f ih =>
    intro s a inv hfree hr hy H
    have hun := (mem_ready.1 hr).1
    refine ⟨fun h => (by rw [h] at hr; cases hr), fun j hj => ?_⟩
    by_cases e : j = i
    · rw [e]; exact hy.qOp hi H
    · obtain ⟨hju, oj, hoj, hall⟩ := mem_ready.1 hj
      have hjh : j ∈ hs := by
        rcases inv.cover j (Array.getElem?_eq_some_iff.1 hoj).1 hju with h | h
        · exact h
        · exact absurd hj (tail_late hsk hlk hlt inv _ i rfl hin hun j h)
      have hno : ∀ x ∈ oj.after, Region.binds md x = true → x.on ≠ i := by
        intro x hx hb hxi
        have h1 := hall x hx hb
        rw [hxi, getD_both hun] at h1
        cases h1
      have h2 := qOp_put hoj (hfree j oj hoj e hju hno) (fun cs b => sel i oi cs b hi) (fun cs b => sel j oj cs b hoj) hy (H.2 j (ready_mono hj e))
      have hfree2 : ∀ k ok, ops[k]? = some ok → k ≠ i → (s.setIfInBounds j true).getD k true = false →
          (∀ x ∈ ok.after, Region.binds md x = true → x.on ≠ i) → oi.apart ops ok = true := by
        intro k ok hk hki hkun hkno
        refine hfree k ok hk hki ?_ hkno
        by_cases ejk : j = k
        · rw [← ejk]; exact hju
        · rw [getD_set_ne true ejk] at hkun; exact hkun
      refine qOp_mono (fun a' h3 => ih _ a' (inv.set hj (hdis j hjh)) hfree2 (ready_mono hr (Ne.symm e)) h3.1 ?_) h2
      rw [Array.setIfInBounds_comm _ _ e]
      exact h3.2

/-- The places in this order may be taken one by one; 'last' holds of what has come up then. -/
def Region.orderB (md : Region.Mode) (ops : Array Oper) (last : Array Bool → Bool) : List Nat → Array Bool → Bool
  | [], s => last s
  | i :: r, s => (Region.ready md ops s).contains i && Region.free md ops s i && Region.orderB md ops last r (s.setIfInBounds i true)
/-- The head, one by one. -/
theorem headC_order {hs ts : List Nat} {t0 : Nat} {L : Act → Prop} {last : Array Bool → Bool} (hns : Region.noSelect ops = true)
    (hsk : Region.sinkL md ops hs t0 = true) (hlk : Region.linkB md ops (t0 :: ts) = true) (hlt : ∀ i ∈ hs, i < ops.size) (hdis : ∀ i ∈ hs, i ∉ t0 :: ts)
    (hlast : ∀ s, last s = true → ∀ j ∈ Region.ready md ops s, j ∈ t0 :: ts) (r : List Nat) :
    ∀ (l : List Oper) (s : Array Bool) (a : Act), r.map (fun i => ops[i]?) = l.map some → (∀ i ∈ r, i ∈ hs) → ListInv md ops hs (t0 :: ts) s →
    Region.orderB md ops last r s = true → wpQuiet P ops C L l a →
    HeadC P md ops C (fun s' a' => last s' = true ∧ L a') r.length s a := by
  induction r with
  | nil =>
    intro l s a hl _ _ hB h
    cases l with
    | nil => exact ⟨hB, h⟩
    | cons _ _ => simp at hl
  | cons i r ih =>
    intro l s a hl hin inv hB h
    cases l with
    | nil => simp at hl
    | cons o l =>
      simp only [List.map_cons, List.cons.injEq] at hl
      simp only [Region.orderB, Bool.and_eq_true] at hB
      have hr : i ∈ Region.ready md ops s := by simpa using hB.1.1
      have hq : qOp P ops C i (wpQuiet P ops C L l) a := by unfold qOp; simp only [hl.1]; exact h
      obtain ⟨v, hy, hK⟩ := yieldsIn_of_qOp hl.1 hq
      have hih := hin i (by simp)
      refine headC_first hl.1 hns hsk hlk hlt hdis hih (fun s' a' h' => hlast s' h'.1) r.length s a inv (Region.free_spec hl.1 hB.1.2) hr hy ?_
      exact ih l _ _ hl.2 (fun x hx => hin x (by simp [hx])) (inv.set hr (hdis i hih)) hB.2 hK

/-- Operations that yield their value in whatever world, taken first one by one; behind them Q. -/
def PureWalk (P : Program) (ops : Array Oper) (Q : Act → Prop) : List Oper → Act → Prop
  | [], a => Q a
  | o :: r, a => ∃ v, Yields P ops o v a ∧ PureWalk P ops Q r (a.put o.dst v)
theorem PureWalk.nil {Q : Act → Prop} {a : Act} (h : Q a) : PureWalk P ops Q [] a := h
theorem any_of_pure {Q : Exit → Act → World → Prop} {g : Nat} {last : Array Bool → Bool} (hns : Region.noSelect ops = true)
    (hQ : ∀ c a a' w, a'.defers = a.defers → Q (.panic c) a' w → Q (.panic c) a w) {R : Act → Prop} {w : World} (inv0 : List Nat → Array Bool → Prop) (hstep : ∀ s i r, inv0 (i :: r) s → i ∈ Region.ready md ops s → inv0 r (s.setIfInBounds i true))
    (hR : ∀ s a, inv0 [] s → last s = true → R a → wpAny P md ops Q g s a w) (r : List Nat) :
    ∀ (l : List Oper) (s : Array Bool) (a : Act), r.map (fun i => ops[i]?) = l.map some → inv0 r s → Region.orderB md ops last r s = true → PureWalk P ops R l a → wpAny P md ops Q (r.length + g) s a w := by
  induction r with
  | nil =>
    intro l s a hl hi hB h
    cases l with
    | nil => rw [List.length_nil, Nat.zero_add]; exact hR s a hi hB h
    | cons _ _ => simp at hl
  | cons i r ih =>
    intro l s a hl hinv hB h
    cases l with
    | nil => simp at hl
    | cons o l =>
      simp only [List.map_cons, List.cons.injEq] at hl
      simp only [Region.orderB, Bool.and_eq_true] at hB
      obtain ⟨v, hv, hn⟩ := h
      have hr : i ∈ Region.ready md ops s := by simpa using hB.1.1
      have e : (i :: r).length + g = (r.length + g) + 1 := by simp only [List.length_cons]; omega
      rw [e]
      refine wpAny_take hl.1 hns hB.1.2 hB.1.1 (fun c a w q => hQ c a _ w (by cases o.dst <;> rfl) q) hv ?_
      exact ih l _ _ hl.2 (hstep s i r hinv hr) hB.2 hn

/-- A tail that comes up one by one. -/
def Region.seqL (md : Region.Mode) (ops : Array Oper) : List Nat → Array Bool → Bool
  | [], s => (Region.ready md ops s).isEmpty
  | i :: r, s => decide (Region.ready md ops s = [i]) && Region.seqL md ops r (s.setIfInBounds i true)
theorem any_of_seqL {Q : Exit → Act → World → Prop} (r : List Nat) :
    ∀ (l : List Oper) (s : Array Bool) (a : Act) (w : World), r.map (fun i => ops[i]?) = l.map some → Region.seqL md ops r s = true → wpList P ops Q l a w → wpAny P md ops Q r.length s a w := by
  induction r with
  | nil =>
    intro l s a w hl hB h
    cases l with
    | nil => exact ⟨by simpa [Region.seqL] using hB, h⟩
    | cons _ _ => simp at hl
  | cons i r ih =>
    intro l s a w hl hB h
    cases l with
    | nil => simp at hl
    | cons o l =>
      simp only [List.map_cons, List.cons.injEq] at hl
      simp only [Region.seqL, Bool.and_eq_true, decide_eq_true_eq] at hB
      refine ⟨fun h1 => (by rw [hB.1] at h1; cases h1), fun j hj => ?_⟩
      rw [hB.1] at hj
      have hji : j = i := by simpa using hj
      rw [hji]
      have hw : wpOp P ops Q i (wpList P ops Q l) a w := by unfold wpOp; simp only [hl.1]; exact h
      exact wpOp_mono (fun a' w' h' => ih l _ a' w' hl.2 hB.2 h') hw
theorem seqL_ready {t0 : Nat} {ts : List Nat} {s : Array Bool} (h : Region.seqL md ops (t0 :: ts) s = true) : ∀ j ∈ Region.ready md ops s, j ∈ t0 :: ts := by
  intro j hj
  simp only [Region.seqL, Bool.and_eq_true, decide_eq_true_eq] at h
  rw [h.1] at hj
  simp at hj; simp [hj]

/-- Operations that can only yield a value. -/
def Op.valued : Op → Bool
  | .move _ | .assign _ | .binOp .. | .unOp .. | .convert .. | .fieldAddr .. | .field .. | .indexAddr .. | .index .. | .slice .. | .extract .. | .build .. | .sliceToArrayPointer .. => true
  | .call c => match c.callee with
    | .builtin .len | .builtin .cap => true
    | _ => false
  | _ => false
theorem valued_run {o : Oper} (h : o.op.valued = true) (ρ : Operand → Value) (w w' : World) (n : Next) (hr : (execOp ρ o).run P w = .ok n w') : ∃ v, n = .value v := by
  have key : ∀ (m : Sem Value), (do let x ← m; pure (Next.value x) : Sem Next).run P w = .ok n w' → ∃ v, n = .value v := by
    intro m hm
    rw [Sem.run_bind] at hm
    generalize m.run P w = r at hm
    cases r with
    | ok x w2 => simp only [Result.andThen_ok, Sem.run_pure, Result.ok.injEq] at hm; exact ⟨x, hm.1.symm⟩
    | halt x w2 => simp [Result.andThen] at hm
  obtain ⟨dst, op, type, pos, after, guard⟩ := o
  cases op
  case call c =>
    obtain ⟨callee, cargs, cats⟩ := c
    cases callee with
    | builtin b =>
      cases b <;> first
        | (simp [Op.valued] at h; done)
        | (simp only [execOp, resolve, Sem.run_bind, Sem.run_pure, Result.andThen_ok, invoke, builtin] at hr; exact key _ (by rw [Sem.run_bind]; exact hr))
    | _ => simp [Op.valued] at h
  all_goals first
    | exact key _ hr
    | (simp [Op.valued] at h; done)
    | (simp only [execOp, Sem.run_pure, Result.ok.injEq] at hr; exact ⟨_, hr.1.symm⟩)
theorem pureWalk_of_quiet {Q : Act → Prop} (l : List Oper) : ∀ a : Act, (l.all fun o => o.op.valued) = true → wpQuiet P ops (fun _ => True) Q l a → PureWalk P ops Q l a := by
  induction l with
  | nil => intro a _ h; exact h
  | cons o l ih =>
    intro a hv h
    simp only [List.all_cons, Bool.and_eq_true] at hv
    unfold wpQuiet at h
    cases hw : Region.wanted o (yielded ops a.tmps) with
    | false =>
      rw [if_neg (by rw [hw]; exact Bool.false_ne_true)] at h
      exact ⟨_, .inr ⟨hw, rfl⟩, ih _ (by simpa using hv.2) h⟩
    | true =>
      rw [if_pos hw] at h
      obtain ⟨v, h1, h2⟩ := h
      refine ⟨v, .inl ⟨hw, fun w => ?_⟩, ih _ (by simpa using hv.2) h2⟩
      have h3 := h1 w trivial
      unfold Oper.quietAt at h3
      cases hr : (execOp a.eval o).run P w with
      | ok n w' =>
        obtain ⟨u, rfl⟩ := valued_run hv.1 _ _ _ _ hr
        rw [hr] at h3
        simp only [Oper.quietUpon] at h3
        rw [h3.1, h3.2]
      | halt x w' => rw [hr] at h3; simp only [Oper.quietUpon] at h3

/-- All that the kernel is asked of a region: 'ps' first (they hang on no world), then the head 'hs', then the tail 't0 :: ts'. -/
def Region.mixB (md : Region.Mode) (ops : Array Oper) (ps hs : List Nat) (t0 : Nat) (ts : List Nat) : Bool :=
  (ps.filterMap fun i => ops[i]?).all (fun o => o.op.valued) && Region.noSelect ops && Region.sinkL md ops hs t0 && Region.linkB md ops (t0 :: ts) && hs.all (fun i => decide (i < ops.size) && !(t0 :: ts).contains i) && (t0 :: ts).all (fun i => !ps.contains i && decide (i < ops.size)) &&
  (List.range ops.size).all (fun j => ps.contains j || hs.contains j || (t0 :: ts).contains j) && decide (ps.length + (hs.length + (ts.length + 1)) = ops.size) &&
  Region.orderB md ops (Region.orderB md ops (Region.seqL md ops (t0 :: ts)) hs) ps (Array.replicate ops.size false)

/-- **THE REGION**: operations that hang on no world first, the head in a class of worlds, the tail one by one. -/
theorem wp_region_mix {id : Nat} {Q : Exit → Act → World → Prop} {a : Act} {w : World} {l : List Oper} (C : World → Prop) (ps hs : List Nat) (t0 : Nat) (ts : List Nat) (hm : P.follows .mixedOrders = true)
    (hB : Region.mixB .any l.toArray ps hs t0 ts = true) (hQ : ∀ c a a' w, a'.defers = a.defers → Q (.panic c) a' w → Q (.panic c) a w) (hC : C w.drew)
    (h : wpQuiet P l.toArray (fun _ => True) (wpQuiet P l.toArray C (fun a' => ∀ w', C w' → wpList P l.toArray Q ((t0 :: ts).filterMap fun i => l[i]?) a' w') (hs.filterMap fun i => l[i]?)) (ps.filterMap fun i => l[i]?) a) : (Code.region id l.toArray true).wp P Q a w := by
  simp only [Region.mixB, Bool.and_eq_true, decide_eq_true_eq] at hB
  obtain ⟨⟨⟨⟨⟨⟨⟨⟨hval, hns⟩, hsk⟩, hlk⟩, hhs⟩, hts⟩, hcv⟩, hlen⟩, hord⟩ := hB
  replace h := pureWalk_of_quiet _ _ (by simpa using hval) h
  have hh1 : ∀ i ∈ hs, i < l.toArray.size := fun i hi => by have := List.all_eq_true.1 hhs i hi; simp only [Bool.and_eq_true, decide_eq_true_eq] at this; exact this.1
  have hh2 : ∀ i ∈ hs, i ∉ t0 :: ts := fun i hi => by
    have := List.all_eq_true.1 hhs i hi
    simp only [Bool.and_eq_true, Bool.not_eq_true'] at this
    have h2 := this.2
    intro hmem
    rw [List.contains_iff_mem.2 hmem] at h2
    cases h2
  have ht1 : ∀ i ∈ t0 :: ts, i ∉ ps ∧ i < l.toArray.size := fun i hi => by
    have := List.all_eq_true.1 hts i hi
    simp only [Bool.and_eq_true, Bool.not_eq_true', decide_eq_true_eq] at this
    refine ⟨fun hmem => ?_, this.2⟩
    rw [List.contains_iff_mem.2 hmem] at this
    cases this.1
  have hsome : ∀ r : List Nat, (∀ i ∈ r, i < l.toArray.size) → r.map (fun i => l.toArray[i]?) = (r.filterMap fun i => l[i]?).map some := by
    intro r
    induction r with
    | nil => intro _; rfl
    | cons i r ih =>
      intro hr
      have hi : i < l.length := by simpa using hr i (by simp)
      rw [List.map_cons, ih (fun x hx => hr x (by simp [hx]))]
      have e : l[i]? = some l[i] := List.getElem?_eq_getElem hi
      simp [e]
  have hordlt : ∀ (last : Array Bool → Bool) (r : List Nat) (s : Array Bool), Region.orderB .any l.toArray last r s = true → ∀ i ∈ r, i < l.toArray.size := by
    intro last r
    induction r with
    | nil => intro _ _ i hi; cases hi
    | cons x r ih =>
      intro s hs i hi
      simp only [Region.orderB, Bool.and_eq_true] at hs
      rcases List.mem_cons.1 hi with rfl | hi
      · have hr : i ∈ Region.ready .any l.toArray s := by simpa using hs.1.1
        obtain ⟨_, o, ho, _⟩ := mem_ready.1 hr
        exact (Array.getElem?_eq_some_iff.1 ho).1
      · exact ih _ hs.2 i hi
  refine wp_region_any hm ?_
  let inv0 : List Nat → Array Bool → Prop := fun r s => s.size = l.toArray.size ∧ (∀ j oj, l.toArray[j]? = some oj → s.getD j false = true → ∀ e ∈ oj.after, Region.binds .any e = true → s.getD e.on false = true) ∧
    (∀ j, s.getD j true = false → j < l.toArray.size ∧ (j ∉ ps ∨ j ∈ r)) ∧ (∀ j, j < l.toArray.size → j ∉ ps → s.getD j true = false) ∧ (∀ i ∈ r, i ∈ ps)
  have hstep : ∀ s i r, inv0 (i :: r) s → i ∈ Region.ready .any l.toArray s → inv0 r (s.setIfInBounds i true) := by
    intro s i r inv hi
    obtain ⟨_, oi, hoi, hall⟩ := mem_ready.1 hi
    obtain ⟨i1, i2, i3, i4, i5⟩ := inv
    refine ⟨by simp [i1], fun j oj hj hl e he hb => ?_, fun j hj => ?_, fun j hj hp => ?_, fun x hx => i5 x (by simp [hx])⟩
    · by_cases hij : i = j
      · have e2 : oj = oi := Option.some.inj (hj.symm.trans (hij ▸ hoi))
        rw [e2] at he
        exact getD_set_true (hall e he hb)
      · rw [getD_set_ne false hij] at hl
        exact getD_set_true (i2 j oj hj hl e he hb)
    · have hne : i ≠ j := by
        intro e
        rw [← e] at hj
        have hl : i < s.size := by rw [i1]; exact (Array.getElem?_eq_some_iff.1 hoi).1
        simp [hl] at hj
      rw [getD_set_ne true hne] at hj
      have h1 := i3 j hj
      refine ⟨h1.1, h1.2.imp (fun q => q) fun hm => ?_⟩
      rcases List.mem_cons.1 hm with h | h
      · exact absurd h.symm hne
      · exact h
    · have hne : i ≠ j := fun e => hp (e ▸ i5 i (by simp))
      rw [getD_set_ne true hne]; exact i4 j hj hp
  have final : ∀ s a, inv0 [] s → Region.orderB .any l.toArray (Region.seqL .any l.toArray (t0 :: ts)) hs s = true →
      wpQuiet P l.toArray C (fun a' => ∀ w', C w' → wpList P l.toArray Q ((t0 :: ts).filterMap fun i => l[i]?) a' w') (hs.filterMap fun i => l[i]?) a → wpAny P .any l.toArray Q (hs.length + (ts.length + 1)) s a w.drew := by
    intro s a inv hB hq
    obtain ⟨i1, i2, i3, i4, _⟩ := inv
    have linv : ListInv .any l.toArray hs (t0 :: ts) s := by
      refine ⟨i1, i2, fun t ht => i4 t (ht1 t ht).2 (ht1 t ht).1, fun j hj hu => ?_⟩
      have h1 := List.all_eq_true.1 hcv j (List.mem_range.2 hj)
      simp only [Bool.or_eq_true, List.contains_iff_mem] at h1
      rcases h1 with (h1 | h1) | h1
      · rcases (i3 j hu).2 with h2 | h2
        · exact absurd h1 h2
        · cases h2
      · exact .inl h1
      · exact .inr h1
    have H := headC_order (md := .any) (last := Region.seqL .any l.toArray (t0 :: ts)) hns hsk hlk hh1 hh2 (fun s h => seqL_ready h) hs _ s a (hsome hs hh1) (fun i hi => hi) linv hB hq
    exact any_of_headC (g := ts.length + 1) (fun s' a' w' hw' hL => any_of_seqL (t0 :: ts) _ s' a' w' (hsome _ fun i hi => (ht1 i hi).2) hL.1 (hL.2 w' hw')) _ s a w.drew hC H
  have R := any_of_pure (g := hs.length + (ts.length + 1)) (md := .any) (last := fun s => Region.orderB .any l.toArray (Region.seqL .any l.toArray (t0 :: ts)) hs s) hns hQ (R := _) (w := w.drew)
    inv0 hstep final ps _ _ a (hsome ps (hordlt _ ps _ hord)) ⟨by simp, fun j oj _ hl => (by rw [getD_replicate_false] at hl; cases hl), fun j hj => ⟨?_, ?_⟩, fun j hj _ => getD_in (by simpa using hj) (getD_replicate_false _ _), fun i hi => hi⟩ hord h
  · rw [hlen] at R; exact R
  · rcases Nat.lt_or_ge j l.toArray.size with h1 | h1
    · exact h1
    · have h2 : ¬ j < l.length := by simpa using h1
      simp [Array.getD, h2] at hj
  · by_cases hp : j ∈ ps
    · exact .inr hp
    · exact .inl hp

/-- One operation of such a head: a load of a whole array or struct. -/
theorem wpQuiet_load_blk {Q : Act → Prop} {rest : List Oper} {o : Oper} {a : Act} {g : Nat} {t : TypeId} {cs : Array Value} (hb : ∀ w, C w → Blk w g t cs) (hgd : o.guard = none) (ty : TypeId) (x : Operand) (ho : o.op = .load ty x)
    (hx : a.eval x = .pointer (some ⟨g, 0, none⟩)) (d : TypeDesc)
    (hu : P.underlying ty = some d) (hd : (match d with | .struct _ | .array _ _ => true | _ => false) = true) {n : Nat} (hi : (P.info? ty).map (·.size) = some n) (hn : cs.size = n)
    (h : wpQuiet P ops C Q rest (a.put o.dst (.agg cs))) : wpQuiet P ops C Q (o :: rest) a := by
  refine wpQuiet_step fun K hK => ?_
  rw [if_pos (by simp [Region.wanted, hgd])]
  refine ⟨_, fun w hw => ?_, hK _ h⟩
  unfold Oper.quietAt execOp
  simp only [ho, hx, Instr.loadAt, Instr.sureAddr, Sem.run_bind, Sem.run_pure, Result.andThen_ok, run_loadVar_row w g t ty cs (0, 0) d (hb w hw) hu hd (hn ▸ hi)]
  exact ⟨rfl, rfl⟩
/-- A call of a Go function whose contract holds in the whole class. -/
theorem wpQuiet_call {Q : Act → Prop} {rest : List Oper} {o : Oper} {a : Act} {f : FuncId} (hf : ∀ args w, (callFunc f args).run P w = .ok (.enter f args) w) (hgd : o.guard = none) (xs : List Operand) (ats : Array TypeId)
    (ho : o.op = .call { callee := .value (.func f), args := xs.toArray, argTypes := ats }) (vals : List Value) (hx : xs.map a.eval = vals) (v : Value)
    (hc : ∀ w, C w → Calls P f vals.toArray w fun e w' => e = .returned v ∧ C w') (h : wpQuiet P ops C Q rest (a.put o.dst v)) : wpQuiet P ops C Q (o :: rest) a := by
  refine wpQuiet_step fun K hK => ?_
  rw [if_pos (by simp [Region.wanted, hgd])]
  refine ⟨v, fun w hw => ?_, hK _ h⟩
  obtain ⟨dst, op, type, pos, after, guard⟩ := o
  simp only at ho
  subst ho
  unfold Oper.quietAt
  rw [execOp_call_go, hf]
  have e : #[] ++ xs.toArray.map a.eval ++ #[] = vals.toArray := by rw [← hx]; simp
  rw [e]
  exact ⟨rfl, hc w hw⟩
end
end Go

/- A region that draws its order, taken by a plan: operations that leave the world alone are taken first wherever they may come, the others come up in one forced order. Plain facts over any program. No condition. -/
namespace Go
section
variable {P : Program} {ops : Array Oper} {md : Region.Mode} {C : World → Prop} {Z : List Nat} {Q : Exit → Act → World → Prop}
/-- In state 'a', in every world of the class, the operation leaves v in its temporary, and that very world. -/
def YieldsC (P : Program) (ops : Array Oper) (C : World → Prop) (o : Oper) (v : Value) (a : Act) : Prop :=
  (Region.wanted o (yielded ops a.tmps) = true ∧ ∀ w, C w → o.quietAt P a (fun w' => w' = w) w v) ∨
  (Region.wanted o (yielded ops a.tmps) = false ∧ v = undef)
theorem YieldsC.of_same {o : Oper} {v : Value} {a a' : Act} (hy : YieldsC P ops C o v a) (he : execOp a'.eval o = execOp a.eval o)
    (hw : Region.wanted o (yielded ops a'.tmps) = Region.wanted o (yielded ops a.tmps)) : YieldsC P ops C o v a' := by
  unfold YieldsC Oper.quietAt at *
  rw [he, hw]
  exact hy
theorem YieldsC.wpOp {i : Nat} {o : Oper} {v : Value} {a : Act} (hi : ops[i]? = some o) (hy : YieldsC P ops C o v a) {K : Act → World → Prop} {w : World} (hC : C w) (h : K (a.put o.dst v) w) : wpOp P ops Q i K a w := by
  unfold Go.wpOp
  simp only [hi]
  rcases hy with ⟨hw, hv⟩ | ⟨hw, rfl⟩
  · simp only [hw, if_true]
    have h1 := hv w hC
    refine .inl ?_
    unfold Oper.quietAt at h1
    unfold Oper.wp
    generalize (execOp a.eval o).run P w = r at *
    cases r with
    | ok n w' =>
      cases n <;> simp only [Oper.quietUpon] at h1 <;> simp only [Oper.upon]
      case value u => obtain ⟨e1, e2⟩ := h1; rw [e1, e2]; exact h
      case skip => obtain ⟨e1, e2⟩ := h1; rw [e1, ← e2]; exact h
      case enter f args =>
        obtain ⟨e1, hc⟩ := h1
        rw [e1]
        exact hc.mono fun e w'' ⟨he, hw''⟩ => by subst he; rw [hw'']; exact h
    | halt x w' => simp only [Oper.quietUpon] at h1
  · simp only [hw, Bool.false_eq_true, if_false]; exact h
theorem wpOp_putC {j : Nat} {oi oj : Oper} {v : Value} (hj : ops[j]? = some oj) (hap : oi.apart ops oj = true)
    (hsi : ∀ cs b, oi.op ≠ .select cs b) (hsj : ∀ cs b, oj.op ≠ .select cs b)
    (hQ : ∀ c a a' w, a'.defers = a.defers → Q (.panic c) a' w → Q (.panic c) a w) {K : Act → World → Prop} {a : Act} {w : World}
    (hy : YieldsC P ops C oi v a) (h : wpOp P ops Q j K (a.put oi.dst v) w) :
    wpOp P ops Q j (fun a' w' => YieldsC P ops C oi v a' ∧ K (a'.put oi.dst v) w') a w := by
  obtain ⟨h1, h2, h3⟩ := Oper.apart_spec hap
  have hdef : ∀ (a : Act) (d : Option Tmp) (v : Value), (a.put d v).defers = a.defers := fun a d v => by cases d <;> rfl
  have keep : ∀ (a : Act), YieldsC P ops C oi v a → ∀ u, YieldsC P ops C oi v (a.put oj.dst u) := fun a hy u =>
    hy.of_same (execOp_put oi hsi a oj.dst u h3) (wanted_put oi a oj.dst u h3)
  have keepD : ∀ d, YieldsC P ops C oi v { a with defers := d :: a.defers } := fun d => hy.of_same rfl rfl
  unfold wpOp at *
  simp only [hj] at *
  rw [wanted_put oj a oi.dst v h1] at h
  split
  · rename_i hw
    simp only [hw, if_true] at h
    rcases h with h | ⟨hasks, hlets⟩
    case inr => exact .inr ⟨by unfold Oper.asks at *; rw [execOp_put oj hsj a oi.dst v h1] at hasks; exact hasks, hlets⟩
    refine .inl ?_
    unfold Oper.wp at *
    rw [execOp_put oj hsj a oi.dst v h1] at h
    generalize (execOp a.eval oj).run P w = r at *
    cases r with
    | ok n w' =>
      cases n <;> simp only [Oper.upon] at h ⊢
      case value u => exact ⟨keep a hy u, by rw [← Act.put_comm a v u h2]; exact h⟩
      case skip => exact ⟨keep a hy _, by rw [← Act.put_comm a v undef h2]; exact h⟩
      case defer d =>
        refine ⟨keep _ (keepD d) _, ?_⟩
        rw [← Act.put_comm _ v undef h2, ← Act.put_defers]
        exact h
      case enter f args =>
        refine Calls.mono h fun e w'' he => ?_
        cases e with
        | returned u => exact ⟨keep a hy u, by rw [← Act.put_comm a v u h2]; exact he⟩
        | panicked c => exact hQ _ _ _ _ (hdef _ _ _) he
        | outgrown => exact he
      case row row args => exact Rows.mono h fun u w'' he => ⟨keep a hy u, by rw [← Act.put_comm a v u h2]; exact he⟩
    | halt x w' =>
      cases x <;> simp only [Oper.upon] at h ⊢
      case panic u => exact hQ _ _ _ _ (hdef _ _ _) h
  · rename_i hw
    simp only [hw] at h
    exact ⟨keep a hy _, by rw [← Act.put_comm a v undef h2]; exact h⟩

/-- Whatever order is picked from here on; behind each operation but those of Z the world is of the class. -/
def wpAnyC (P : Program) (md : Region.Mode) (ops : Array Oper) (C : World → Prop) (Z : List Nat) (Q : Exit → Act → World → Prop) : Nat → Array Bool → Act → World → Prop
  | 0, listed, a, w => Region.ready md ops listed = [] ∧ Q .normal a w
  | fuel + 1, listed, a, w =>
    (Region.ready md ops listed = [] → Q .normal a w) ∧
    ∀ i ∈ Region.ready md ops listed, wpOp P ops Q i (fun a' w' => (i ∈ Z ∨ C w') ∧ wpAnyC P md ops C Z Q fuel (listed.setIfInBounds i true) a' w') a w
theorem wpAny_of_C : ∀ (fuel : Nat) (s : Array Bool) (a : Act) (w : World), wpAnyC P md ops C Z Q fuel s a w → wpAny P md ops Q fuel s a w
  | 0, _, _, _, h => h
  | fuel + 1, _, _, _, h => ⟨h.1, fun i hi => wpOp_mono (fun a' w' h' => wpAny_of_C fuel _ a' w' h'.2) (h.2 i hi)⟩
theorem wpAnyC_first {i : Nat} {oi : Oper} {v : Value} (hi : ops[i]? = some oi) (hns : Region.noSelect ops = true)
    (hQ : ∀ c a a' w, a'.defers = a.defers → Q (.panic c) a' w → Q (.panic c) a w) (hZ : ∀ z ∈ Z, Region.waitsFor md ops z i = true) :
    ∀ (fuel : Nat) (s : Array Bool) (a : Act) (w : World),
      (∀ j oj, ops[j]? = some oj → j ≠ i → s.getD j true = false → (∀ e ∈ oj.after, Region.binds md e = true → e.on ≠ i) → oi.apart ops oj = true) →
      i ∈ Region.ready md ops s → YieldsC P ops C oi v a → C w →
      wpAnyC P md ops C Z Q fuel (s.setIfInBounds i true) (a.put oi.dst v) w → wpAnyC P md ops C Z Q (fuel + 1) s a w := by
  have sel := fun (j : Nat) (o : Oper) cs b => Region.noSelect_spec hns j o cs b
  intro fuel
  induction fuel with
  | zero =>
    intro s a w _ hr hy hC H
    refine ⟨fun h => (by rw [h] at hr; cases hr), fun j hj => ?_⟩
    by_cases hji : j = i
    · subst hji; exact hy.wpOp hi hC ⟨.inr hC, H⟩
    · have := ready_mono hj hji
      rw [H.1] at this
      cases this
  | succ fuel ih =>
    intro s a w hfree hr hy hC H
    refine ⟨fun h => (by rw [h] at hr; cases hr), fun j hj => ?_⟩
    by_cases hji : j = i
    · subst hji; exact hy.wpOp hi hC ⟨.inr hC, H⟩
    · have h1 := H.2 j (ready_mono hj hji)
      obtain ⟨hjun, oj, hoj, hall⟩ := mem_ready.1 hj
      have hiun := (mem_ready.1 hr).1
      have hnot : ∀ e ∈ oj.after, Region.binds md e = true → e.on ≠ i := fun e he hb heq => by
        have h2 := hall e he hb
        rw [heq, getD_both hiun] at h2
        cases h2
      have hjZ : j ∉ Z := fun hz => by
        obtain ⟨ot, hot, e, he, hb, hon⟩ := Region.waitsFor_spec (hZ j hz)
        have : ot = oj := Option.some.inj (hot.symm.trans hoj)
        rw [this] at he
        exact hnot e he hb hon
      have h2 := wpOp_putC hoj (hfree j oj hoj hji hjun hnot) (fun cs b => sel i oi cs b hi) (fun cs b => sel j oj cs b hoj) hQ hy h1
      have hfree' : ∀ k ok, ops[k]? = some ok → k ≠ i → (s.setIfInBounds j true).getD k true = false →
          (∀ e ∈ ok.after, Region.binds md e = true → e.on ≠ i) → oi.apart ops ok = true := fun k ok hk hki hun hno => by
        refine hfree k ok hk hki ?_ hno
        by_cases hjk : j = k
        · subst hjk; exact hjun
        · rw [getD_set_ne true hjk] at hun; exact hun
      refine wpOp_mono (fun a' w' h3 => ?_) h2
      have hC' : C w' := h3.2.1.resolve_left hjZ
      refine ⟨.inr hC', ih (s.setIfInBounds j true) a' w' hfree' (ready_mono hr (Ne.symm hji)) h3.1 hC' ?_⟩
      rw [Array.setIfInBounds_comm _ _ hji]
      exact h3.2.2
/-- Operations that leave the world as it is. -/
def Op.stillB : Op → Bool
  | .load .. | .pick .. | .makeInterface .. | .nilCheck .. => true
  | o => o.valued
theorem still_run {o : Oper} (h : o.op.stillB = true) (ρ : Operand → Value) (w w' : World) (n : Next) (hr : (execOp ρ o).run P w = .ok n w') : ∃ v, n = .value v := by
  have key : ∀ (m : Sem Value), (do let x ← m; pure (Next.value x) : Sem Next).run P w = .ok n w' → ∃ v, n = .value v := by
    intro m hm
    rw [Sem.run_bind] at hm
    generalize m.run P w = r at hm
    cases r with
    | ok x w2 => simp only [Result.andThen_ok, Sem.run_pure, Result.ok.injEq] at hm; exact ⟨x, hm.1.symm⟩
    | halt x w2 => simp [Result.andThen] at hm
  by_cases hv : o.op.valued = true
  · exact valued_run hv ρ w w' n hr
  obtain ⟨dst, op, type, pos, after, guard⟩ := o
  cases op
  case load => exact key _ hr
  case makeInterface => exact key _ hr
  case nilCheck x =>
    have hno : ∀ {e : RuntimeError}, e = .nilDeref → (runtimePanic e : Sem Next).run P w ≠ .ok n w' := fun he hh => by subst he; cases hh
    have hp : ∀ y : Value, (pure (Next.value y) : Sem Next).run P w = .ok n w' → ∃ v, n = .value v := fun y hy => by rw [Sem.run_pure, Result.ok.injEq] at hy; exact ⟨_, hy.1.symm⟩
    simp only [execOp] at hr
    split at hr
    · exact absurd hr (hno rfl)
    · exact absurd hr (hno rfl)
    · exact absurd hr (hno rfl)
    · split at hr
      · exact absurd hr (hno rfl)
      · rw [Sem.run_bind] at hr
        generalize (program).run P w = r0 at hr
        cases r0 with
        | halt y w2 => simp [Result.andThen] at hr
        | ok pp w1 =>
          rw [Result.andThen_ok, Sem.run_bind] at hr
          generalize (nilAhead _ _ _ _).run P w1 = r1 at hr
          cases r1 with
          | halt y w2 => simp [Result.andThen] at hr
          | ok bb w2 =>
            rw [Result.andThen_ok] at hr
            split at hr
            · simp [Result.andThen] at hr
            · rw [Sem.run_pure, Result.ok.injEq] at hr; exact ⟨_, hr.1.symm⟩
      · exact hp _ hr
    · exact hp _ hr
  case pick c a b =>
    simp only [execOp, Sem.run_bind] at hr
    generalize (asBool (ρ c)).run P w = r at hr
    cases r with
    | ok x w2 => simp only [Result.andThen_ok, Sem.run_pure, Result.ok.injEq] at hr; exact ⟨_, hr.1.symm⟩
    | halt x w2 => simp [Result.andThen] at hr
  all_goals first
    | (simp [Op.stillB] at h; exact absurd h hv)
    | (simp [Op.stillB] at h; done)
    | (simp [Op.valued] at hv; done)
/-- Such operations, walked in a class of worlds, yield in each of them and leave it. -/
theorem yieldsC_of {o : Oper} {a : Act} {v : Value} (h : o.op.stillB = true) (hy : YieldsIn P ops C o v a) : YieldsC P ops C o v a := by
  rcases hy with ⟨h1, h2⟩ | h1
  · refine .inl ⟨h1, fun w hw => ?_⟩
    have h3 := h2 w hw
    unfold Oper.quietAt at h3 ⊢
    cases hr : (execOp a.eval o).run P w with
    | ok n w' =>
      obtain ⟨u, rfl⟩ := still_run h _ _ _ _ hr
      rw [hr] at h3
      exact h3
    | halt x w' => rw [hr] at h3; exact h3
  · exact .inr h1

/-! The plan: (true, i): i is taken first; (false, i): i is the only one that may come. -/
def Region.planB (md : Region.Mode) (ops : Array Oper) (Z : List Nat) : List (Bool × Nat) → Array Bool → Bool
  | [], s => (Region.ready md ops s).isEmpty
  | (true, i) :: r, s => (Region.ready md ops s).contains i && Region.free md ops s i && (Z.all fun z => Region.waitsFor md ops z i) && Region.planB md ops Z r (s.setIfInBounds i true)
  | (false, i) :: r, s => decide (Region.ready md ops s = [i]) && Region.planB md ops Z r (s.setIfInBounds i true)
def wpPlan (P : Program) (ops : Array Oper) (C : World → Prop) (Z : List Nat) (Q : Exit → Act → World → Prop) : List (Bool × Nat) → Act → World → Prop
  | [], a, w => Q .normal a w
  | (true, i) :: r, a, w => match ops[i]? with
    | some o => ∃ v, YieldsC P ops C o v a ∧ (C w → wpPlan P ops C Z Q r (a.put o.dst v) w)
    | none => False
  | (false, i) :: r, a, w => wpOp P ops Q i (fun a' w' => (i ∈ Z ∨ C w') ∧ wpPlan P ops C Z Q r a' w') a w
/-- Is it known, at each place of the plan where something is taken first, that the world is of the class? (No place of Z stands ahead of it.) -/
def Region.planZ (Z : List Nat) : List (Bool × Nat) → Bool → Bool
  | [], _ => true
  | (true, _) :: r, c => c && Region.planZ Z r c
  | (false, i) :: r, c => Region.planZ Z r (c && !Z.contains i)
theorem anyC_of_plan (hns : Region.noSelect ops = true) (hQ : ∀ c a a' w, a'.defers = a.defers → Q (.panic c) a' w → Q (.panic c) a w) :
    ∀ (pl : List (Bool × Nat)) (c : Bool) (s : Array Bool) (a : Act) (w : World), Region.planB md ops Z pl s = true → Region.planZ Z pl c = true → (c = true → C w) → wpPlan P ops C Z Q pl a w → wpAnyC P md ops C Z Q pl.length s a w := by
  intro pl
  induction pl with
  | nil => intro c s a w hB _ _ h; exact ⟨by simpa [Region.planB] using hB, h⟩
  | cons x r ih =>
    obtain ⟨b, i⟩ := x
    intro c s a w hB hz hC h
    cases b with
    | true =>
      simp only [Region.planB, Bool.and_eq_true] at hB
      simp only [Region.planZ, Bool.and_eq_true] at hz
      obtain ⟨⟨⟨h1, h2⟩, h3⟩, h4⟩ := hB
      have hr : i ∈ Region.ready md ops s := by simpa using h1
      obtain ⟨_, oi, hoi, _⟩ := mem_ready.1 hr
      simp only [wpPlan, hoi] at h
      obtain ⟨v, hy, hn⟩ := h
      exact wpAnyC_first hoi hns hQ (fun z hz => List.all_eq_true.1 h3 z hz) r.length s a w (Region.free_spec hoi h2) hr hy (hC hz.1) (ih c _ _ _ h4 hz.2 hC (hn (hC hz.1)))
    | false =>
      simp only [Region.planB, Bool.and_eq_true, decide_eq_true_eq] at hB
      simp only [Region.planZ] at hz
      refine ⟨fun h0 => (by rw [hB.1] at h0; cases h0), fun j hj => ?_⟩
      rw [hB.1] at hj
      have hji : j = i := by simpa using hj
      rw [hji]
      refine wpOp_mono (fun a' w' h' => ⟨h'.1, ih (c && !Z.contains i) _ a' w' hB.2 hz (fun hc => ?_) h'.2⟩) h
      simp only [Bool.and_eq_true, Bool.not_eq_true'] at hc
      refine h'.1.resolve_left fun hm => ?_
      rw [List.contains_iff_mem.2 hm] at hc
      cases hc.2
/-- **THE REGION, BY A PLAN.** -/
theorem wp_region_plan {id : Nat} {a : Act} {w : World} {l : List Oper} (C : World → Prop) (Z : List Nat) (pl : List (Bool × Nat)) (hm : P.follows .mixedOrders = true)
    (hB : (Region.noSelect l.toArray && Region.planB .any l.toArray Z pl (Array.replicate l.toArray.size false) && Region.planZ Z pl true && decide (pl.length = l.toArray.size)) = true)
    (hQ : ∀ c a a' w, a'.defers = a.defers → Q (.panic c) a' w → Q (.panic c) a w) (hC : C w.drew) (h : wpPlan P l.toArray C Z Q pl a w.drew) : (Code.region id l.toArray true).wp P Q a w := by
  simp only [Bool.and_eq_true, decide_eq_true_eq] at hB
  obtain ⟨⟨⟨h1, h2⟩, h3⟩, h4⟩ := hB
  refine wp_region_any hm ?_
  rw [← h4]
  exact wpAny_of_C _ _ _ _ (anyC_of_plan h1 hQ pl true _ a w.drew (by rw [h4]; exact h2) h3 (fun _ => hC) h)
/-- Operations that are taken first, walked as quiet ones. -/
theorem wpPlan_take {w : World} (is : List Nat) (r : List (Bool × Nat)) : ∀ (a : Act), ((is.filterMap fun i => ops[i]?).all fun o => o.op.stillB) = true → (is.all fun i => decide (i < ops.size)) = true →
    C w → wpQuiet P ops C (fun a' => wpPlan P ops C Z Q r a' w) (is.filterMap fun i => ops[i]?) a → wpPlan P ops C Z Q (is.map (fun i => (true, i)) ++ r) a w := by
  induction is with
  | nil => intro a _ _ _ h; exact h
  | cons i is ih =>
    intro a hs hlt hC h
    simp only [List.all_cons, Bool.and_eq_true, decide_eq_true_eq] at hlt
    have hi : ops[i]? = some ops[i] := Array.getElem?_eq_getElem hlt.1
    simp only [List.filterMap_cons, hi, List.all_cons, Bool.and_eq_true] at hs h
    have hq : qOp P ops C i (wpQuiet P ops C (fun a' => wpPlan P ops C Z Q r a' w) (is.filterMap fun i => ops[i]?)) a := by unfold qOp; simp only [hi]; exact h
    obtain ⟨v, hy, hK⟩ := yieldsIn_of_qOp hi hq
    simp only [List.map_cons, List.cons_append, wpPlan, hi]
    exact ⟨v, yieldsC_of hs.1 hy, fun _ => ih _ hs.2 hlt.2 hC hK⟩
theorem wpPlan_takeL {l : List Oper} {w : World} (is : List Nat) (r : List (Bool × Nat)) (a : Act) (hs : ((is.filterMap fun i => l[i]?).all fun o => o.op.stillB) = true) (hlt : (is.all fun i => decide (i < l.length)) = true)
    (hC : C w) (h : wpQuiet P l.toArray C (fun a' => wpPlan P l.toArray C Z Q r a' w) (is.filterMap fun i => l[i]?) a) : wpPlan P l.toArray C Z Q (is.map (fun i => (true, i)) ++ r) a w := by
  have e : (is.filterMap fun i => l.toArray[i]?) = is.filterMap fun i => l[i]? := by congr 1; funext i; exact List.getElem?_toArray ..
  exact wpPlan_take is r a (by rw [e]; exact hs) (by simpa using hlt) hC (by rw [e]; exact h)
/-- .. operations that hang on no world. -/
theorem wpPlan_pure {l : List Oper} {w : World} (is : List Nat) (r : List (Bool × Nat)) : ∀ (a : Act), ((is.filterMap fun i => l[i]?).all fun o => o.op.stillB) = true → (is.all fun i => decide (i < l.length)) = true →
    wpQuiet P l.toArray (fun _ => True) (fun a' => wpPlan P l.toArray C Z Q r a' w) (is.filterMap fun i => l[i]?) a → wpPlan P l.toArray C Z Q (is.map (fun i => (true, i)) ++ r) a w := by
  induction is with
  | nil => intro a _ _ h; exact h
  | cons i is ih =>
    intro a hs hlt h
    simp only [List.all_cons, Bool.and_eq_true, decide_eq_true_eq] at hlt
    have hi : l[i]? = some l[i] := List.getElem?_eq_getElem hlt.1
    have hi' : l.toArray[i]? = some l[i] := by rw [List.getElem?_toArray]; exact hi
    simp only [List.filterMap_cons, hi, List.all_cons, Bool.and_eq_true] at hs h
    have hq : qOp P l.toArray (fun _ => True) i (wpQuiet P l.toArray (fun _ => True) (fun a' => wpPlan P l.toArray C Z Q r a' w) (is.filterMap fun i => l[i]?)) a := by unfold qOp; simp only [hi']; exact h
    obtain ⟨v, hy, hK⟩ := yieldsIn_of_qOp hi' hq
    have hy' := yieldsC_of hs.1 hy
    simp only [List.map_cons, List.cons_append, wpPlan, hi']
    refine ⟨v, ?_, fun _ => ih _ hs.2 hlt.2 hK⟩
    rcases hy' with ⟨h1, h2⟩ | h1
    · exact .inl ⟨h1, fun w _ => h2 w trivial⟩
    · exact .inr h1
/-- What is asked behind an operation that had to come. -/
def PlanQ (P : Program) (ops : Array Oper) (C : World → Prop) (Z : List Nat) (Q : Exit → Act → World → Prop) (i : Nat) (r : List (Bool × Nat)) : Exit → Act → World → Prop
  | .normal, a, w => (i ∈ Z ∨ C w) ∧ wpPlan P ops C Z Q r a w
  | e, a, w => Q e a w
theorem wpPlan_force {a : Act} {w : World} {i : Nat} {r : List (Bool × Nat)} (o : Oper) (ho : ops[i]? = some o) (h : wpList P ops (PlanQ P ops C Z Q i r) [o] a w) : wpPlan P ops C Z Q ((false, i) :: r) a w := by
  simp only [wpPlan]
  unfold wpOp
  simp only [ho]
  unfold wpList at h
  have hmono : ∀ {a : Act} {w : World}, o.wp P a w (wpList P ops (PlanQ P ops C Z Q i r) []) (PlanQ P ops C Z Q i r) → o.wp P a w (fun a' w' => (i ∈ Z ∨ C w') ∧ wpPlan P ops C Z Q r a' w') Q := by
    intro a w h
    unfold Oper.wp at h ⊢
    generalize (execOp a.eval o).run P w = rr at *
    cases rr with
    | ok n w' =>
      cases n <;> simp only [Oper.upon] at h ⊢
      case value u => exact h
      case skip => exact h
      case defer d => exact h
      case enter f args =>
        refine Calls.mono h fun e w'' he => ?_
        cases e <;> exact he
      case row row args => exact Rows.mono h fun u w'' he => he
    | halt x w' => cases x <;> simp only [Oper.upon] at h ⊢; exact h
  split
  · rename_i hw
    rw [if_pos hw] at h
    rcases h with h | ⟨h1, h2⟩
    · exact .inl (hmono h)
    · exact .inr ⟨h1, h2⟩
  · rename_i hw
    rw [if_neg hw] at h
    exact h
theorem wpPlan_forceL {l : List Oper} {a : Act} {w : World} {i : Nat} {r : List (Bool × Nat)} (o : Oper) (ho : l[i]? = some o) (h : wpList P l.toArray (PlanQ P l.toArray C Z Q i r) [o] a w) : wpPlan P l.toArray C Z Q ((false, i) :: r) a w :=
  wpPlan_force o (by rw [List.getElem?_toArray]; exact ho) h
theorem wpPlan_nil {a : Act} {w : World} (h : Q .normal a w) : wpPlan P ops C Z Q [] a w := h
theorem PlanQ.in_ {a : Act} {w : World} {i : Nat} {r : List (Bool × Nat)} (hC : C w) (h : wpPlan P ops C Z Q r a w) : PlanQ P ops C Z Q i r .normal a w := ⟨.inr hC, h⟩
theorem PlanQ.out {a : Act} {w : World} {i : Nat} {r : List (Bool × Nat)} (hz : Z.contains i = true) (h : wpPlan P ops C Z Q r a w) : PlanQ P ops C Z Q i r .normal a w := ⟨.inl (by simpa using hz), h⟩
/-- The rest comes one by one, whatever becomes of the class: no place is taken first any more. -/
theorem wpPlan_rest {r : List Nat} : ∀ (l : List Oper) (a : Act) (w : World), r.map (fun i => ops[i]?) = l.map some → (r.all fun i => Z.contains i) = true → wpList P ops Q l a w → wpPlan P ops C Z Q (r.map fun i => (false, i)) a w := by
  induction r with
  | nil =>
    intro l a w hl _ h
    cases l with
    | nil => exact h
    | cons _ _ => simp at hl
  | cons i r ih =>
    intro l a w hl hz h
    cases l with
    | nil => simp at hl
    | cons o l =>
      simp only [List.map_cons, List.cons.injEq] at hl
      simp only [List.all_cons, Bool.and_eq_true] at hz
      simp only [List.map_cons, wpPlan]
      have hw : wpOp P ops Q i (wpList P ops Q l) a w := by unfold wpOp; simp only [hl.1]; exact h
      exact wpOp_mono (fun a' w' h' => ⟨.inl (by simpa using hz.1), ih l a' w' hl.2 hz.2 h'⟩) hw
theorem run_isAgg_cell {t : TypeId} {d : TypeDesc} (hu : P.underlying t = some d) (hd : d.isRow = false) (w : World) : (isAgg t).run P w = .ok false w := by
  unfold isAgg
  cases d <;> first | (simp [TypeDesc.isRow] at hd; done) | simp [run_underlying hu]
/-- A load of one cell that every world of the class has. -/
theorem wpQuiet_load_cell {R : Act → Prop} {rest : List Oper} {o : Oper} {a : Act} {b off : Nat} {v : Value} (hb : ∀ w, C w → w.cell? ⟨b, off, none⟩ = some v) (hgd : o.guard = none) (ty : TypeId) (x : Operand) (ho : o.op = .load ty x)
    (hx : a.eval x = .pointer (some ⟨b, off, none⟩)) (d : TypeDesc) (hu : P.underlying ty = some d) (hd : d.isRow = false)
    (h : wpQuiet P ops C R rest (a.put o.dst v)) : wpQuiet P ops C R (o :: rest) a := by
  refine wpQuiet_step fun K hK => ?_
  rw [if_pos (by simp [Region.wanted, hgd])]
  refine ⟨v, fun w hw => ?_, hK _ h⟩
  have hc := hb w hw
  unfold Oper.quietAt execOp
  simp only [ho, hx, Instr.loadAt, Instr.sureAddr, Sem.run_bind, Sem.run_pure, Result.andThen_ok, loadVar, run_isAgg_cell hu hd w, Bool.false_eq_true, if_false]
  simp [hc, Oper.quietUpon]
end
end Go

/- A region that draws its order, by a plan, inside a fence (the round of a loop over an iterator, too): operations that call nothing. Plain facts over any program. No condition. -/
namespace Go
section
variable {P : Program} {ops : Array Oper} {md : Region.Mode} {F : Fence} {n : Nat}
/-- An operation that yields a value or nothing, and calls nothing. -/
def Op.calmB : Op → Bool
  | .store .. | .entryStore .. | .mapUpdate .. | .insert .. => true
  | .lookup .. | .mapEntry .. | .alloc _ | .box .. | .build .. | .buildSlice .. | .makeMap .. | .makeSlice .. | .sliceToArrayPointer .. => true
  | .call _ => false
  | o => o.stillB
theorem calm_about {o : Oper} (h : o.op.calmB = true) (w : World) (ρ : Operand → Value) : o.about P w ρ = none := by
  unfold Oper.about
  cases ho : o.op <;> first | rfl | skip
  rw [ho] at h
  simp [Op.calmB] at h
theorem calm_semAt {o : Oper} (h : o.op.calmB = true) (ρ : Operand → Value) (ro : Option Nat) : Oper.semAt ro ρ o = execOp ρ o :=
  Oper.semAt_eq ro ρ o fun c hc => by rw [hc] at h; simp [Op.calmB, Op.stillB, Op.valued] at h
theorem calm_run {o : Oper} (h : o.op.calmB = true) (ρ : Operand → Value) (w w' : World) (x : Next) (hr : (execOp ρ o).run P w = .ok x w') : (∃ v, x = .value v) ∨ x = .skip := by
  by_cases hs : o.op.stillB = true
  · exact .inl (still_run hs ρ w w' x hr)
  · obtain ⟨dst, op, type, pos, after, guard⟩ := o
    have one : ∀ m : Sem Value, (do let x ← m; pure (Next.value x) : Sem Next).run P w = .ok x w' → (∃ v, x = .value v) ∨ x = .skip := fun m hm => by
      rw [Sem.run_bind] at hm
      generalize m.run P w = r at hm
      cases r with
      | ok y w2 => simp only [Result.andThen_ok, Sem.run_pure, Result.ok.injEq] at hm; exact .inl ⟨y, hm.1.symm⟩
      | halt y w2 => simp [Result.andThen] at hm
    have none' : ∀ m : Sem Unit, (do m; pure Next.skip : Sem Next).run P w = .ok x w' → (∃ v, x = .value v) ∨ x = .skip := fun m hm => by
      rw [Sem.run_bind] at hm
      generalize m.run P w = r at hm
      cases r with
      | ok y w2 => simp only [Result.andThen_ok, Sem.run_pure, Result.ok.injEq] at hm; exact .inr hm.1.symm
      | halt y w2 => simp [Result.andThen] at hm
    cases op
    all_goals first
      | exact absurd h hs
      | exact one _ hr
      | exact none' _ hr
      | (simp [Op.calmB] at h; done)
/-- The same ends but the machine's outgrowing. -/
def strict (Q : Exit → Act → World → Prop) : Exit → Act → World → Prop
  | .outgrown, _, _ => False
  | e, a, w => Q e a w
theorem strict_le (Q : Exit → Act → World → Prop) (e : Exit) (a : Act) (w : World) (h : strict Q e a w) : Q e a w := by
  cases e <;> first | exact h | exact h.elim
@[go_sem] theorem strict_normal (Q : Exit → Act → World → Prop) (a : Act) (w : World) : strict Q .normal a w = Q .normal a w := rfl
theorem opIn_of_op {Q : Exit → Act → World → Prop} {i : Nat} {K K' : Act → World → Prop} {a : Act} {w : World} (hc : (ops.all fun o => o.op.calmB) = true) (hk : ∀ a w, K a w → K' a w)
    (h : wpOp P ops (strict Q) i K a w) : wpOpIn F n P ops Q i K' a w := by
  unfold wpOp at h
  unfold wpOpIn
  cases ho : ops[i]? with
  | none => rw [ho] at h; exact hk _ _ h
  | some o =>
    rw [ho] at h
    have hco : o.op.calmB = true := by
      have := Array.all_eq_true'.1 hc o (Array.mem_of_getElem? ho)
      simpa using this
    simp only at h ⊢
    split
    · rename_i hw
      rw [if_pos hw] at h
      have hlet : ¬ LetsOut (strict Q) := fun ⟨_, _, hq⟩ => hq
      have h1 := h.resolve_right fun hh => hlet hh.2
      unfold Oper.wp at h1
      unfold Oper.wpIn
      refine ⟨fun f hf => (by rw [calm_about hco] at hf; cases hf), ?_⟩
      rw [calm_semAt hco]
      cases hr : (execOp a.eval o).run P w with
      | ok x w' =>
        rw [hr] at h1
        rcases calm_run hco _ _ _ _ hr with ⟨v, rfl⟩ | rfl
        · exact hk _ _ h1
        · exact hk _ _ h1
      | halt x w' =>
        rw [hr] at h1
        cases x <;> first | exact h1 | exact h1.elim
    · rename_i hw
      rw [if_neg hw] at h
      exact ⟨fun f hf => (by rw [calm_about hco] at hf; cases hf), hk _ _ h⟩
theorem anyIn_of_any {Q : Exit → Act → World → Prop} (hc : (ops.all fun o => o.op.calmB) = true) : ∀ (fuel : Nat) (s : Array Bool) (a : Act) (w : World), wpAny P md ops (strict Q) fuel s a w → wpAnyIn F n P md ops Q fuel s a w
  | 0, _, _, _, h => h
  | fuel + 1, _, _, _, h => ⟨h.1, fun i hi => opIn_of_op hc (fun a w => anyIn_of_any hc fuel _ a w) (h.2 i hi)⟩
/-- The plain end alone. -/
def tidy (Q : Exit → Act → World → Prop) : Exit → Act → World → Prop
  | .normal, a, w => Q .normal a w
  | _, _, _ => False
theorem tidy_le (Q : Exit → Act → World → Prop) (e : Exit) (a : Act) (w : World) (h : tidy Q e a w) : Q e a w := by
  cases e <;> first | exact h | exact h.elim
@[go_sem] theorem tidy_normal (Q : Exit → Act → World → Prop) (a : Act) (w : World) : tidy Q .normal a w = Q .normal a w := rfl
theorem wpPlan_tidy {C : World → Prop} {Z : List Nat} {Q : Exit → Act → World → Prop} {a : Act} {w : World} (h : Q .normal a w) : wpPlan P ops C Z (tidy Q) [] a w := h
theorem strict_tidy (Q : Exit → Act → World → Prop) : strict (tidy Q) = tidy Q := by
  funext e a w
  cases e <;> rfl
/-- **THE REGION, BY A PLAN, where it neither panics nor outgrows the machine.** -/
theorem wp_region_planT {id : Nat} {a : Act} {w : World} {l : List Oper} {Q : Exit → Act → World → Prop} (C : World → Prop) (Z : List Nat) (pl : List (Bool × Nat)) (hm : P.follows .mixedOrders = true)
    (hB : (Region.noSelect l.toArray && Region.planB .any l.toArray Z pl (Array.replicate l.toArray.size false) && Region.planZ Z pl true && decide (pl.length = l.toArray.size)) = true)
    (hC : C w.drew) (h : wpPlan P l.toArray C Z (tidy Q) pl a w.drew) : (Code.region id l.toArray true).wp P Q a w :=
  wp_mono (wp_region_plan C Z pl hm hB (fun _ _ _ _ _ q => q.elim) hC h) (tidy_le Q)
/-- **THE REGION, BY A PLAN, INSIDE A FENCE.** -/
theorem wpIn_region_planT {id : Nat} {a : Act} {w : World} {l : List Oper} {Q : Exit → Act → World → Prop} (C : World → Prop) (Z : List Nat) (pl : List (Bool × Nat)) (hm : P.follows .mixedOrders = true)
    (hB : (Region.noSelect l.toArray && Region.planB .any l.toArray Z pl (Array.replicate l.toArray.size false) && Region.planZ Z pl true && decide (pl.length = l.toArray.size)) = true)
    (hc : (l.toArray.all fun o => o.op.calmB) = true)
    (hC : C w.drew) (h : wpPlan P l.toArray C Z (tidy Q) pl a w.drew) : (Code.region id l.toArray true).wpIn F n P Q a w := by
  simp only [Bool.and_eq_true, decide_eq_true_eq] at hB
  obtain ⟨⟨⟨h1, h2⟩, h3⟩, h4⟩ := hB
  refine wpIn_mono (wpIn_region_any (Q := tidy Q) hm (anyIn_of_any hc _ _ _ _ ?_)) (tidy_le Q)
  rw [← h4, strict_tidy]
  exact wpAny_of_C _ _ _ _ (anyC_of_plan h1 (fun _ _ _ _ _ q => q.elim) pl true _ a w.drew (by rw [h4]; exact h2) h3 (fun _ => hC) h)
end
end Go

/- Maps keyed by ints, in a block of the call's own: what is looked up, stored, cleared, made. Plain facts over any program. No condition. -/
namespace Go
open Go.RowKit Go.Instr Go.MapKept
/-- A map's block. -/
def MapB (w : World) (g : Nat) (es : Array MapEntry) (c : Nat) : Prop := w.heap[g]? = some (.map es c)
section
variable {w w' : World} {g : Nat} {es : Array MapEntry} {c : Nat}
theorem MapB.lt (h : MapB w g es c) : g < w.heap.size := (Array.getElem?_eq_some_iff.1 h).1
theorem MapB.below {B : Nat} (h : MapB w g es c) (hb : Below B w w') (hlt : g < B) : MapB w' g es c := (hb.block g hlt).trans h
theorem MapB.upd {k : Nat} (h : MapB w g es c) (u : Upd k w w') (hne : g ≠ k) : MapB w' g es c := (u.block g hne).trans h
theorem MapB.drew (h : MapB w g es c) : MapB w.drew g es c := h
theorem MapB.alloc (h : MapB w g es c) (o : Obj) : MapB (w.alloc o) g es c := by
  have hl := h.lt
  unfold MapB at *
  rw [← h]
  exact ((Below.refl w.heap.size w).alloc (Nat.le_refl _) o).block g hl
theorem MapB.new (w : World) (es : Array MapEntry) (c : Nat) : MapB (w.alloc (.map es c)) w.heap.size es c := heap_alloc_last w _
instance : KeepsTo w w' (MapB w g es c) (MapB w' g es c) := ⟨fun hb h => h.below hb h.lt⟩
end
/-- The place and the element of a key. -/
def mfind : List MapEntry → Int → Nat → Option (Nat × Value)
  | [], _, _ => none
  | e :: es, a, i => match e.key with
    | .int .i64 b => if a = b then some (i, e.val) else mfind es a (i + 1)
    | _ => mfind es a (i + 1)
def IntKeys (es : List MapEntry) : Prop := ∀ e ∈ es, ∃ a, e.key = .int .i64 a
def mget (es : Array MapEntry) (a : Int) : Option Value := (mfind es.toList a 0).map (·.2)
theorem findNow_int (a : Int) : ∀ (es : List MapEntry) (i : Nat), IntKeys es → findNow (.int .i64) (.int .i64 a) es i = some (mfind es a i)
  | [], _, _ => rfl
  | e :: es, i, h => by
    obtain ⟨b, hb⟩ := h e (.head _)
    have ih := findNow_int a es (i + 1) (fun x hx => h x (.tail _ hx))
    unfold findNow mfind
    rw [hb]
    by_cases hab : a = b
    · subst hab; simp [sameNow]
    · simp only [sameNow, if_true, beq_eq_false_iff_ne.2 hab, if_neg hab, ih]
/-- What a store leaves. -/
def mput (es : Array MapEntry) (c : Nat) (a : Int) (v : Value) : Array MapEntry × Nat :=
  match mfind es.toList a 0 with
  | some (i, _) => (es.modify i fun e => { e with key := .int .i64 a, val := v }, c)
  | none => (es.push { key := .int .i64 a, val := v, born := c }, c + 1)
theorem mfind_lt (a : Int) : ∀ (es : List MapEntry) (i j : Nat) (v : Value), mfind es a i = some (j, v) → i ≤ j ∧ ∃ e, es[j - i]? = some e ∧ e.key = .int .i64 a ∧ e.val = v
  | [], _, _, _, h => by cases h
  | e :: es, i, j, v, h => by
    unfold mfind at h
    split at h
    · rename_i b hb
      by_cases hab : a = b
      · rw [if_pos hab] at h
        injection h with h; injection h with h1 h2
        subst h1 h2
        exact ⟨Nat.le_refl _, e, by simp, by rw [hb, hab], rfl⟩
      · rw [if_neg hab] at h
        obtain ⟨h1, e', h2, h3⟩ := mfind_lt a es (i + 1) j v h
        exact ⟨by omega, e', by rw [show j - i = (j - (i + 1)) + 1 by omega]; simpa using h2, h3⟩
    · obtain ⟨h1, e', h2, h3⟩ := mfind_lt a es (i + 1) j v h
      exact ⟨by omega, e', by rw [show j - i = (j - (i + 1)) + 1 by omega]; simpa using h2, h3⟩
theorem IntKeys.put {es : Array MapEntry} {c : Nat} {a : Int} {v : Value} (h : IntKeys es.toList) : IntKeys (mput es c a v).1.toList := by
  unfold mput
  split
  · intro e he
    rw [Array.toList_modify] at he
    obtain ⟨k, hk, rfl⟩ := List.getElem_of_mem he
    rw [List.getElem_modify]
    split
    · exact ⟨a, rfl⟩
    · exact h _ (List.getElem_mem _)
  · intro e he
    rw [Array.toList_push, List.mem_append, List.mem_singleton] at he
    rcases he with he | rfl
    · exact h e he
    · exact ⟨a, rfl⟩
section
variable {P : Program} {w : World} {ops : Array Oper} {rest : List Oper} {o : Oper} {a : Act} {Q : Exit → Act → World → Prop}
theorem run_lookup_int (t kt et : TypeId) (ht : P.underlying t = some (.map kt et)) (hk : P.underlying kt = some (.int .i64)) (g : Nat) (es : Array MapEntry) (c : Nat) (hg : MapB w g es c) (hes : IntKeys es.toList) (x : Int) (z : Value)
    (hz : (zeroValue et).run P w = .ok z w) : (lookup t (.map (some g)) (.int .i64 x) true).run P w = .ok (.tuple #[(mget es x).getD z, .bool (mget es x).isSome]) w := by
  have h1 := run_checkKey (P := P) (w := w) (k := .int .i64 x) hk rfl es.isEmpty 9999
  have h2 := run_findKey (w := w) hk (findNow_int x es.toList 0 hes)
  have h0 : (getObj g).run P w = .ok (.map es c) w := MapKept.run_getObj_map hg
  unfold lookup mget
  cases hm : mfind es.toList x 0 with
  | none => rw [hm] at h2; simp [run_underlying ht, h0, h1, h2, hz, Result.andThen]
  | some p => rw [hm] at h2; simp [run_underlying ht, h0, h1, h2, Result.andThen]
theorem wpList_lookup_int (hgd : o.guard = none) (t kt et : TypeId) (m k : Operand) (ho : o.op = .lookup t m k true) (ht : P.underlying t = some (.map kt et)) (hk : P.underlying kt = some (.int .i64)) (g : Nat) (es : Array MapEntry) (c : Nat)
    (hg : MapB w g es c) (hes : IntKeys es.toList) (x : Int) (z : Value) (hz : (zeroValue et).run P w = .ok z w) (hm : a.eval m = .map (some g)) (hx : a.eval k = .int .i64 x)
    (h : wpList P ops Q rest (a.put o.dst (.tuple #[(mget es x).getD z, .bool (mget es x).isSome])) w) : wpList P ops Q (o :: rest) a w :=
  wpList_run _ hgd (by unfold execOp; simp only [ho, hm, hx, run_lookup_int t kt et ht hk g es c hg hes x z hz, Sem.run_bind, Result.andThen_ok, Sem.run_pure]) h
theorem sameBits_int (x : Int) : sameBits 10000 (.int .i64 x) (.int .i64 x) = true := by simp [sameBits]
theorem run_mapUpdate_int (t kt et : TypeId) (ht : P.underlying t = some (.map kt et)) (hk : P.underlying kt = some (.int .i64)) (g : Nat) (es : Array MapEntry) (c : Nat) (hg : MapB w g es c) (hes : IntKeys es.toList) (x : Int) (v : Value) :
    ∃ w', (mapUpdate t (.map (some g)) (.int .i64 x) v).run P w = .ok () w' ∧ MapB w' g (mput es c x v).1 (mput es c x v).2 ∧ Upd g w w' := by
  have h1 := run_checkKey (P := P) (w := w) (k := .int .i64 x) hk rfl false 9999
  have h2 := run_findKey (w := w) hk (findNow_int x es.toList 0 hes)
  have hu : ∀ ob, MapB w g es c → Upd g w { w with heap := w.heap.setIfInBounds g ob } := fun ob _ => ⟨rfl, rfl, rfl, by simp, fun k hk => by simp [Ne.symm hk]⟩
  have h0 : (getObj g).run P w = .ok (.map es c) w := MapKept.run_getObj_map hg
  have hs : ∀ ob, (setObj g ob).run P w = .ok () { w with heap := w.heap.setIfInBounds g ob } := fun ob => MapKept.run_setObj_map ob hg
  unfold mapUpdate mput
  cases hm : mfind es.toList x 0 with
  | none =>
    rw [hm] at h2
    simp only [Sem.run_bind, run_underlying ht, Result.andThen_ok, h0, h1, h2, hs]
    exact ⟨_, rfl, (heap_set hg).1, hu _ hg⟩
  | some p =>
    obtain ⟨i, v0⟩ := p
    obtain ⟨_, e, h3, h4, _⟩ := mfind_lt x es.toList 0 i v0 hm
    have h5 : ((es[i]?).map (·.key)).getD (.int .i64 x) = .int .i64 x := by
      rw [Nat.sub_zero, Array.getElem?_toList] at h3
      rw [h3]; exact h4
    rw [hm] at h2
    simp only [Sem.run_bind, run_underlying ht, Result.andThen_ok, h0, h1, h2, h5, keyThatStays, sameBits_int, if_true, Sem.run_pure, hs]
    exact ⟨_, rfl, (heap_set hg).1, hu _ hg⟩
theorem wpList_mapUpdate_int (hgd : o.guard = none) (t kt et : TypeId) (m k y : Operand) (ho : o.op = .mapUpdate t m k y) (ht : P.underlying t = some (.map kt et)) (hk : P.underlying kt = some (.int .i64)) (g : Nat) (es : Array MapEntry) (c : Nat)
    (hg : MapB w g es c) (hes : IntKeys es.toList) (x : Int) (v : Value) (hm : a.eval m = .map (some g)) (hx : a.eval k = .int .i64 x) (hy : a.eval y = v)
    (h : ∀ w', MapB w' g (mput es c x v).1 (mput es c x v).2 → Upd g w w' → wpList P ops Q rest (a.put o.dst undef) w') : wpList P ops Q (o :: rest) a w := by
  obtain ⟨w', h1, h2, h3⟩ := run_mapUpdate_int t kt et ht hk g es c hg hes x v
  refine wpList_plain hgd fun _ hK => ?_
  unfold Oper.wp execOp
  simp only [ho, hm, hx, hy, h1, Sem.run_bind, Sem.run_pure, Result.andThen_ok]
  exact hK _ _ (h w' h2 h3)
theorem wpList_clear_map (hgd : o.guard = none) (t : TypeId) (m : Operand) (d : TypeDesc) (ho : o.op = .call { callee := .builtin .clear, args := #[m], argTypes := #[t] }) (ht : P.underlying t = some d) (g : Nat) (es : Array MapEntry) (c : Nat)
    (hg : MapB w g es c) (hm : a.eval m = .map (some g)) (h : ∀ w', MapB w' g #[] c → Upd g w w' → wpList P ops Q rest (a.put o.dst (.tuple #[])) w') : wpList P ops Q (o :: rest) a w := by
  refine wpList_plain hgd fun _ hK => ?_
  have hr : (Builtin.clear_ #[t] o.type #[.map (some g)]).run P w = .ok (.tuple #[]) { w with heap := w.heap.setIfInBounds g (.map #[] c) } := by
    unfold Builtin.clear_
    have h0 : (getObj g).run P w = .ok (.map es c) w := MapKept.run_getObj_map hg
    have hs : ∀ ob, (setObj g ob).run P w = .ok () { w with heap := w.heap.setIfInBounds g ob } := fun ob => MapKept.run_setObj_map ob hg
    simp [run_underlying ht, h0, hs, Result.andThen]
  unfold Oper.wp
  simp [execOp, ho, resolve, invoke, builtin, hm, hr, Result.andThen]
  exact hK _ _ (h _ (heap_set hg).1 ⟨rfl, rfl, rfl, by simp, fun k hk => by simp [Ne.symm hk]⟩)
end
end Go

/- Worlds that differ in a few blocks and in new ones alone. Plain facts. No condition. -/
namespace Go
open Go.RowKit
/-- Of the blocks that were there, those of X alone may have been written. -/
structure Near (X : List Nat) (w w' : World) : Prop where
  os : w'.os = w.os
  tape : w'.tape = w.tape
  output : w'.output = w.output
  size : w.heap.size ≤ w'.heap.size
  block : ∀ k, k < w.heap.size → k ∉ X → w'.heap[k]? = w.heap[k]?
section
variable {X Y : List Nat} {w w' w'' : World}
theorem Near.refl (X : List Nat) (w : World) : Near X w w := ⟨rfl, rfl, rfl, Nat.le_refl _, fun _ _ _ => rfl⟩
theorem Near.trans (h : Near X w w') (k : Near X w' w'') : Near X w w'' :=
  ⟨k.os.trans h.os, k.tape.trans h.tape, k.output.trans h.output, Nat.le_trans h.size k.size, fun x hx hn => (k.block x (Nat.lt_of_lt_of_le hx h.size) hn).trans (h.block x hx hn)⟩
theorem Near.wider (h : Near X w w') (hs : ∀ x ∈ X, x ∈ Y) : Near Y w w' := ⟨h.os, h.tape, h.output, h.size, fun k hk hn => h.block k hk fun hx => hn (hs k hx)⟩
theorem Near.below (h : Below w.heap.size w w') : Near X w w' := ⟨h.os, h.tape, h.output, h.size, fun k hk _ => h.block k hk⟩
theorem Near.upd {g : Nat} (u : Upd g w w') (hg : g ∈ X) : Near X w w' := ⟨u.os, u.tape, u.output, by rw [u.size]; exact Nat.le_refl _, fun k _ hn => u.block k fun e => hn (e ▸ hg)⟩
theorem Near.drew (h : Near X w w') : Near X w w'.drew := ⟨h.os, h.tape, h.output, h.size, h.block⟩
/-- Blocks that came later may be written as well. -/
theorem Near.new {g : Nat} (h : Near X w w') (u : Upd g w' w'') (hg : w.heap.size ≤ g) : Near X w w'' :=
  ⟨u.os.trans h.os, u.tape.trans h.tape, u.output.trans h.output, by rw [u.size]; exact h.size, fun k hk hn => (u.block k (by omega)).trans (h.block k hk hn)⟩
theorem Near.toBelow {B : Nat} (h : Near X w w') (hX : ∀ x ∈ X, B ≤ x) (hB : B ≤ w.heap.size) : Below B w w' := ⟨h.os, h.tape, h.output, h.size, fun k hk => h.block k (by omega) fun hx => by have := hX k hx; omega⟩
theorem Blk.near {g : Nat} {t : TypeId} {cs : Array Value} (h : Blk w g t cs) (k : Near X w w') (hn : g ∉ X) : Blk w' g t cs := (k.block g h.lt hn).trans h
theorem MapB.near {g : Nat} {es : Array MapEntry} {c : Nat} (h : MapB w g es c) (k : Near X w w') (hn : g ∉ X) : MapB w' g es c := (k.block g h.lt hn).trans h
theorem Near.cell {p : Addr} (k : Near X w w') (hp : p.block < w.heap.size) (hn : p.block ∉ X) : w'.cell? p = w.cell? p := by
  unfold World.cell?; rw [k.block _ hp hn]
theorem Bytes.near {A : Option Addr} {l : List UInt8} (h : Bytes w A l) (k : Near X w w') (hn : ∀ ad, A = some ad → ad.block ∉ X) : Bytes w' A l := fun hne => by
  obtain ⟨b, off, e, hc⟩ := h hne
  refine ⟨b, off, e, fun j v hv => ?_⟩
  have h1 := hc j v hv
  exact (k.cell (p := ⟨b, off + j, none⟩) (World.block_lt_of_cell? w _ h1) (hn ⟨b, off, none⟩ e)).trans h1
end
end Go
