/- A region that draws its order: a head whose operations, calls among them, yield one value in every world of a class and stay in the class, and behind it a few operations in one forced order. Plain facts over any program. No condition. -/
import Derived.Test.YtmhfehhpfkjloaaM62
import Derived.Laws.BytesArg
import Derived.Laws.CopyOwn
import Derived.BigQuiet
import Derived.Lib.SlBytesConst
import Derived.Deep.MidRow
namespace Go
section
variable {P : Program} {ops : Array Oper} {md : Region.Mode} {C : World → Prop} {n : Nat}

/-! The head 'hs' and the tail 'ts' are told by lists of places; others have come up before. -/
def Region.linkB (md : Region.Mode) (ops : Array Oper) : List Nat → Bool
  | t :: t' :: r => Region.waitsFor md ops t' t && Region.linkB md ops (t' :: r)
  | _ => true
/-- Each place of the head is waited for by a later one of the head, or by the tail's first. -/
def Region.sinkL (md : Region.Mode) (ops : Array Oper) (hs : List Nat) (t : Nat) : Bool := hs.all fun i => (t :: hs).any fun j => decide (i < j) && Region.waitsFor md ops j i
/-- What has come up is closed under what it waits for; the tail has not come up. -/
structure ListInv (md : Region.Mode) (ops : Array Oper) (hs ts : List Nat) (s : Array Bool) : Prop where
  size : s.size = ops.size
  closed : ∀ j oj, ops[j]? = some oj → s.getD j false = true → ∀ e ∈ oj.after, Region.binds md e = true → s.getD e.on false = true
  tail : ∀ t ∈ ts, s.getD t true = false
  cover : ∀ j, j < ops.size → s.getD j true = false → j ∈ hs ∨ j ∈ ts
theorem ListInv.set {hs ts : List Nat} {s : Array Bool} {i : Nat} (inv : ListInv md ops hs ts s) (hi : i ∈ Region.ready md ops s) (hn : i ∉ ts) : ListInv md ops hs ts (s.setIfInBounds i true) := by
  obtain ⟨_, oi, hoi, hall⟩ := mem_ready.1 hi
  refine ⟨by simp [inv.size], fun j oj hj hl e he hb => ?_, fun t ht => ?_, fun j hj hu => ?_⟩
  · by_cases hij : i = j
    · have e2 : oj = oi := Option.some.inj (hj.symm.trans (hij ▸ hoi))
      rw [e2] at he
      exact getD_set_true (hall e he hb)
    · rw [getD_set_ne false hij] at hl
      exact getD_set_true (inv.closed j oj hj hl e he hb)
  · have hne : i ≠ t := fun e => hn (e ▸ ht)
    rw [getD_set_ne true hne]; exact inv.tail t ht
  · by_cases hij : i = j
    · rw [← hij] at hj hu
      have : i < s.size := by rw [inv.size]; exact hj
      simp [this] at hu
    · rw [getD_set_ne true hij] at hu; exact inv.cover j hj hu
/-- As long as one of the head has not come up none of the tail is ready. -/
theorem tail_late {hs : List Nat} {t0 : Nat} {ts : List Nat} {s : Array Bool} (hsk : Region.sinkL md ops hs t0 = true) (hlk : Region.linkB md ops (t0 :: ts) = true)
    (hlt : ∀ i ∈ hs, i < ops.size) (inv : ListInv md ops hs (t0 :: ts) s) :
    ∀ (d i : Nat), ops.size - i = d → i ∈ hs → s.getD i true = false → ∀ t ∈ t0 :: ts, t ∉ Region.ready md ops s := by
  intro d
  induction d using Nat.strongRecOn with
  | _ d ih =>
    intro i hd hi hun t ht hr
    by_cases e0 : t = t0
    · have h1 := List.all_eq_true.1 hsk i hi
      obtain ⟨j, hj, hj2⟩ := List.any_eq_true.1 h1
      simp only [Bool.and_eq_true, decide_eq_true_eq] at hj2
      obtain ⟨oj, hoj, e, he, hb, hon⟩ := Region.waitsFor_spec hj2.2
      have hjlt : j < ops.size := (Array.getElem?_eq_some_iff.1 hoj).1
      by_cases ejt : j = t0
      · obtain ⟨_, o2, ho2, hall⟩ := mem_ready.1 hr
        rw [e0, ← ejt] at ho2
        have : o2 = oj := Option.some.inj (ho2.symm.trans hoj)
        rw [this] at hall
        have h2 := hall e he hb
        rw [hon, getD_both hun] at h2
        cases h2
      · have hjh : j ∈ hs := by
          rcases List.mem_cons.1 hj with h | h
          · exact absurd h ejt
          · exact h
        cases hl : s.getD j false with
        | true =>
          have h2 := inv.closed j oj hoj hl e he hb
          rw [hon, getD_both hun] at h2
          cases h2
        | false =>
          have hjs : j < s.size := by rw [inv.size]; exact hjlt
          exact ih (ops.size - j) (by have := hlt i hi; omega) j rfl hjh (getD_in hjs hl) t ht hr
    · have hts : t ∈ ts := by
        rcases List.mem_cons.1 ht with h | h
        · exact absurd h e0
        · exact h
      have key : ∀ (l : List Nat) (p : Nat), Region.linkB md ops (p :: l) = true → t ∈ l → ∃ q, (q = p ∨ q ∈ l) ∧ Region.waitsFor md ops t q = true := by
        intro l
        induction l with
        | nil => intro p _ h; cases h
        | cons x l ih2 =>
          intro p hp h
          simp only [Region.linkB, Bool.and_eq_true] at hp
          rcases List.mem_cons.1 h with h | h
          · exact ⟨p, .inl rfl, by rw [h]; exact hp.1⟩
          · obtain ⟨q, hq, hw⟩ := ih2 x hp.2 h
            refine ⟨q, .inr ?_, hw⟩
            rcases hq with rfl | hq
            · simp
            · simp [hq]
      obtain ⟨q, hq, hw⟩ := key ts t0 hlk hts
      obtain ⟨ot, hot, e, he, hb, hon⟩ := Region.waitsFor_spec hw
      obtain ⟨_, o2, ho2, hall⟩ := mem_ready.1 hr
      have : o2 = ot := Option.some.inj (ho2.symm.trans hot)
      rw [this] at hall
      have h2 := hall e he hb
      have hqu : s.getD q true = false := inv.tail q (by rcases hq with rfl | hq <;> simp [*])
      rw [hon, getD_both hqu] at h2
      cases h2


/-- f operations of the head come up next, in whatever order; behind them L. -/
def HeadC (P : Program) (md : Region.Mode) (ops : Array Oper) (C : World → Prop) (L : Array Bool → Act → Prop) : Nat → Array Bool → Act → Prop
  | 0, s, a => L s a
  | f + 1, s, a => Region.ready md ops s ≠ [] ∧ ∀ i ∈ Region.ready md ops s, qOp P ops C i (HeadC P md ops C L f (s.setIfInBounds i true)) a

theorem any_of_headC {g : Nat} {L : Array Bool → Act → Prop} {Q : Exit → Act → World → Prop} (hL : ∀ s a w, C w → L s a → wpAny P md ops Q g s a w) (f : Nat) :
    ∀ (s : Array Bool) (a : Act) (w : World), C w → HeadC P md ops C L f s a → wpAny P md ops Q (f + g) s a w := by
  induction f with
  | zero => intro s a w hw h; rw [Nat.zero_add]; exact hL s a w hw h
  | succ f ih =>
    intro s a w hw h
    have e : f + 1 + g = (f + g) + 1 := by omega
    rw [e]
    exact ⟨fun h0 => absurd h0 h.1, fun i hi => wpOp_of_qOp hw (fun a' w' hw' h' => ih _ a' w' hw' h') (h.2 i hi)⟩

/-- An operation that is ready and yields its value in the whole class may be taken first. -/
theorem headC_first {hs ts : List Nat} {t0 i : Nat} {oi : Oper} {v : Value} {L : Array Bool → Act → Prop} (hi : ops[i]? = some oi) (hns : Region.noSelect ops = true)
    (hsk : Region.sinkL md ops hs t0 = true) (hlk : Region.linkB md ops (t0 :: ts) = true) (hlt : ∀ i ∈ hs, i < ops.size) (hdis : ∀ i ∈ hs, i ∉ t0 :: ts) (hin : i ∈ hs)
    (hL : ∀ s a, L s a → ∀ j ∈ Region.ready md ops s, j ∈ t0 :: ts) (f : Nat) :
    ∀ (s : Array Bool) (a : Act), ListInv md ops hs (t0 :: ts) s →
      (∀ j oj, ops[j]? = some oj → j ≠ i → s.getD j true = false → (∀ e ∈ oj.after, Region.binds md e = true → e.on ≠ i) → oi.apart ops oj = true) →
      i ∈ Region.ready md ops s → YieldsIn P ops C oi v a →
      HeadC P md ops C L f (s.setIfInBounds i true) (a.put oi.dst v) → HeadC P md ops C L (f + 1) s a := by
  have sel := fun (j : Nat) (o : Oper) cs b => Region.noSelect_spec hns j o cs b
  induction f with
  | zero =>
    intro s a inv _ hr hy H
    refine ⟨fun h => (by rw [h] at hr; cases hr), fun j hj => ?_⟩
    by_cases e : j = i
    · rw [e]; exact hy.qOp hi H
    · exact absurd hj (tail_late hsk hlk hlt inv _ i rfl hin (mem_ready.1 hr).1 j (hL _ _ H j (ready_mono hj e)))
  | succ f ih =>
    intro s a inv hfree hr hy H
    have hun := (mem_ready.1 hr).1
    refine ⟨fun h => (by rw [h] at hr; cases hr), fun j hj => ?_⟩
    by_cases e : j = i
    · rw [e]; exact hy.qOp hi H
    · obtain ⟨hju, oj, hoj, hall⟩ := mem_ready.1 hj
      have hjh : j ∈ hs := by
        rcases inv.cover j (Array.getElem?_eq_some_iff.1 hoj).1 hju with h | h
        · exact h
        · exact absurd hj (tail_late hsk hlk hlt inv _ i rfl hin hun j h)
      have hno : ∀ x ∈ oj.after, Region.binds md x = true → x.on ≠ i := by
        intro x hx hb hxi
        have h1 := hall x hx hb
        rw [hxi, getD_both hun] at h1
        cases h1
      have h2 := qOp_put hoj (hfree j oj hoj e hju hno) (fun cs b => sel i oi cs b hi) (fun cs b => sel j oj cs b hoj) hy (H.2 j (ready_mono hj e))
      have hfree2 : ∀ k ok, ops[k]? = some ok → k ≠ i → (s.setIfInBounds j true).getD k true = false →
          (∀ x ∈ ok.after, Region.binds md x = true → x.on ≠ i) → oi.apart ops ok = true := by
        intro k ok hk hki hkun hkno
        refine hfree k ok hk hki ?_ hkno
        by_cases ejk : j = k
        · rw [← ejk]; exact hju
        · rw [getD_set_ne true ejk] at hkun; exact hkun
      refine qOp_mono (fun a' h3 => ih _ a' (inv.set hj (hdis j hjh)) hfree2 (ready_mono hr (Ne.symm e)) h3.1 ?_) h2
      rw [Array.setIfInBounds_comm _ _ e]
      exact h3.2

/-- The places in this order may be taken one by one; 'last' holds of what has come up then. -/
def Region.orderB (md : Region.Mode) (ops : Array Oper) (last : Array Bool → Bool) : List Nat → Array Bool → Bool
  | [], s => last s
  | i :: r, s => (Region.ready md ops s).contains i && Region.free md ops s i && Region.orderB md ops last r (s.setIfInBounds i true)
/-- The head, one by one. -/
theorem headC_order {hs ts : List Nat} {t0 : Nat} {L : Act → Prop} {last : Array Bool → Bool} (hns : Region.noSelect ops = true)
    (hsk : Region.sinkL md ops hs t0 = true) (hlk : Region.linkB md ops (t0 :: ts) = true) (hlt : ∀ i ∈ hs, i < ops.size) (hdis : ∀ i ∈ hs, i ∉ t0 :: ts)
    (hlast : ∀ s, last s = true → ∀ j ∈ Region.ready md ops s, j ∈ t0 :: ts) (r : List Nat) :
    ∀ (l : List Oper) (s : Array Bool) (a : Act), r.map (fun i => ops[i]?) = l.map some → (∀ i ∈ r, i ∈ hs) → ListInv md ops hs (t0 :: ts) s →
    Region.orderB md ops last r s = true → wpQuiet P ops C L l a →
    HeadC P md ops C (fun s' a' => last s' = true ∧ L a') r.length s a := by
  induction r with
  | nil =>
    intro l s a hl _ _ hB h
    cases l with
    | nil => exact ⟨hB, h⟩
    | cons _ _ => simp at hl
  | cons i r ih =>
    intro l s a hl hin inv hB h
    cases l with
    | nil => simp at hl
    | cons o l =>
      simp only [List.map_cons, List.cons.injEq] at hl
      simp only [Region.orderB, Bool.and_eq_true] at hB
      have hr : i ∈ Region.ready md ops s := by simpa using hB.1.1
      have hq : qOp P ops C i (wpQuiet P ops C L l) a := by unfold qOp; simp only [hl.1]; exact h
      obtain ⟨v, hy, hK⟩ := yieldsIn_of_qOp hl.1 hq
      have hih := hin i (by simp)
      refine headC_first hl.1 hns hsk hlk hlt hdis hih (fun s' a' h' => hlast s' h'.1) r.length s a inv (Region.free_spec hl.1 hB.1.2) hr hy ?_
      exact ih l _ _ hl.2 (fun x hx => hin x (by simp [hx])) (inv.set hr (hdis i hih)) hB.2 hK

/-- Operations that yield their value in whatever world, taken first one by one; behind them Q. -/
def PureWalk (P : Program) (ops : Array Oper) (Q : Act → Prop) : List Oper → Act → Prop
  | [], a => Q a
  | o :: r, a => ∃ v, Yields P ops o v a ∧ PureWalk P ops Q r (a.put o.dst v)
theorem PureWalk.nil {Q : Act → Prop} {a : Act} (h : Q a) : PureWalk P ops Q [] a := h
theorem any_of_pure {Q : Exit → Act → World → Prop} {g : Nat} {last : Array Bool → Bool} (hns : Region.noSelect ops = true)
    (hQ : ∀ c a a' w, a'.defers = a.defers → Q (.panic c) a' w → Q (.panic c) a w) {R : Act → Prop} {w : World} (inv0 : List Nat → Array Bool → Prop) (hstep : ∀ s i r, inv0 (i :: r) s → i ∈ Region.ready md ops s → inv0 r (s.setIfInBounds i true))
    (hR : ∀ s a, inv0 [] s → last s = true → R a → wpAny P md ops Q g s a w) (r : List Nat) :
    ∀ (l : List Oper) (s : Array Bool) (a : Act), r.map (fun i => ops[i]?) = l.map some → inv0 r s → Region.orderB md ops last r s = true → PureWalk P ops R l a → wpAny P md ops Q (r.length + g) s a w := by
  induction r with
  | nil =>
    intro l s a hl hi hB h
    cases l with
    | nil => rw [List.length_nil, Nat.zero_add]; exact hR s a hi hB h
    | cons _ _ => simp at hl
  | cons i r ih =>
    intro l s a hl hinv hB h
    cases l with
    | nil => simp at hl
    | cons o l =>
      simp only [List.map_cons, List.cons.injEq] at hl
      simp only [Region.orderB, Bool.and_eq_true] at hB
      obtain ⟨v, hv, hn⟩ := h
      have hr : i ∈ Region.ready md ops s := by simpa using hB.1.1
      have e : (i :: r).length + g = (r.length + g) + 1 := by simp only [List.length_cons]; omega
      rw [e]
      refine wpAny_take hl.1 hns hB.1.2 hB.1.1 (fun c a w q => hQ c a _ w (by cases o.dst <;> rfl) q) hv ?_
      exact ih l _ _ hl.2 (hstep s i r hinv hr) hB.2 hn

/-- A tail that comes up one by one. -/
def Region.seqL (md : Region.Mode) (ops : Array Oper) : List Nat → Array Bool → Bool
  | [], s => (Region.ready md ops s).isEmpty
  | i :: r, s => decide (Region.ready md ops s = [i]) && Region.seqL md ops r (s.setIfInBounds i true)
theorem any_of_seqL {Q : Exit → Act → World → Prop} (r : List Nat) :
    ∀ (l : List Oper) (s : Array Bool) (a : Act) (w : World), r.map (fun i => ops[i]?) = l.map some → Region.seqL md ops r s = true → wpList P ops Q l a w → wpAny P md ops Q r.length s a w := by
  induction r with
  | nil =>
    intro l s a w hl hB h
    cases l with
    | nil => exact ⟨by simpa [Region.seqL] using hB, h⟩
    | cons _ _ => simp at hl
  | cons i r ih =>
    intro l s a w hl hB h
    cases l with
    | nil => simp at hl
    | cons o l =>
      simp only [List.map_cons, List.cons.injEq] at hl
      simp only [Region.seqL, Bool.and_eq_true, decide_eq_true_eq] at hB
      refine ⟨fun h1 => (by rw [hB.1] at h1; cases h1), fun j hj => ?_⟩
      rw [hB.1] at hj
      have hji : j = i := by simpa using hj
      rw [hji]
      have hw : wpOp P ops Q i (wpList P ops Q l) a w := by unfold wpOp; simp only [hl.1]; exact h
      exact wpOp_mono (fun a' w' h' => ih l _ a' w' hl.2 hB.2 h') hw
theorem seqL_ready {t0 : Nat} {ts : List Nat} {s : Array Bool} (h : Region.seqL md ops (t0 :: ts) s = true) : ∀ j ∈ Region.ready md ops s, j ∈ t0 :: ts := by
  intro j hj
  simp only [Region.seqL, Bool.and_eq_true, decide_eq_true_eq] at h
  rw [h.1] at hj
  simp at hj; simp [hj]

/-- Operations that can only yield a value. -/
def Op.valued : Op → Bool
  | .move _ | .assign _ | .binOp .. | .unOp .. | .convert .. | .fieldAddr .. | .field .. | .indexAddr .. | .index .. | .slice .. | .extract .. | .build .. | .sliceToArrayPointer .. => true
  | .call c => match c.callee with
    | .builtin .len | .builtin .cap => true
    | _ => false
  | _ => false
theorem valued_run {o : Oper} (h : o.op.valued = true) (ρ : Operand → Value) (w w' : World) (n : Next) (hr : (execOp ρ o).run P w = .ok n w') : ∃ v, n = .value v := by
  have key : ∀ (m : Sem Value), (do let x ← m; pure (Next.value x) : Sem Next).run P w = .ok n w' → ∃ v, n = .value v := by
    intro m hm
    rw [Sem.run_bind] at hm
    generalize m.run P w = r at hm
    cases r with
    | ok x w2 => simp only [Result.andThen_ok, Sem.run_pure, Result.ok.injEq] at hm; exact ⟨x, hm.1.symm⟩
    | halt x w2 => simp [Result.andThen] at hm
  obtain ⟨dst, op, type, pos, after, guard⟩ := o
  cases op
  case call c =>
    obtain ⟨callee, cargs, cats⟩ := c
    cases callee with
    | builtin b =>
      cases b <;> first
        | (simp [Op.valued] at h; done)
        | (simp only [execOp, resolve, Sem.run_bind, Sem.run_pure, Result.andThen_ok, invoke, builtin] at hr; exact key _ (by rw [Sem.run_bind]; exact hr))
    | _ => simp [Op.valued] at h
  all_goals first
    | exact key _ hr
    | (simp [Op.valued] at h; done)
    | (simp only [execOp, Sem.run_pure, Result.ok.injEq] at hr; exact ⟨_, hr.1.symm⟩)
theorem pureWalk_of_quiet {Q : Act → Prop} (l : List Oper) : ∀ a : Act, (l.all fun o => o.op.valued) = true → wpQuiet P ops (fun _ => True) Q l a → PureWalk P ops Q l a := by
  induction l with
  | nil => intro a _ h; exact h
  | cons o l ih =>
    intro a hv h
    simp only [List.all_cons, Bool.and_eq_true] at hv
    unfold wpQuiet at h
    cases hw : Region.wanted o (yielded ops a.tmps) with
    | false =>
      rw [if_neg (by rw [hw]; exact Bool.false_ne_true)] at h
      exact ⟨_, .inr ⟨hw, rfl⟩, ih _ (by simpa using hv.2) h⟩
    | true =>
      rw [if_pos hw] at h
      obtain ⟨v, h1, h2⟩ := h
      refine ⟨v, .inl ⟨hw, fun w => ?_⟩, ih _ (by simpa using hv.2) h2⟩
      have h3 := h1 w trivial
      unfold Oper.quietAt at h3
      cases hr : (execOp a.eval o).run P w with
      | ok n w' =>
        obtain ⟨u, rfl⟩ := valued_run hv.1 _ _ _ _ hr
        rw [hr] at h3
        simp only [Oper.quietUpon] at h3
        rw [h3.1, h3.2]
      | halt x w' => rw [hr] at h3; simp only [Oper.quietUpon] at h3

/-- All that the kernel is asked of a region: 'ps' first (they hang on no world), then the head 'hs', then the tail 't0 :: ts'. -/
def Region.mixB (md : Region.Mode) (ops : Array Oper) (ps hs : List Nat) (t0 : Nat) (ts : List Nat) : Bool :=
  (ps.filterMap fun i => ops[i]?).all (fun o => o.op.valued) && Region.noSelect ops && Region.sinkL md ops hs t0 && Region.linkB md ops (t0 :: ts) && hs.all (fun i => decide (i < ops.size) && !(t0 :: ts).contains i) && (t0 :: ts).all (fun i => !ps.contains i && decide (i < ops.size)) &&
  (List.range ops.size).all (fun j => ps.contains j || hs.contains j || (t0 :: ts).contains j) && decide (ps.length + (hs.length + (ts.length + 1)) = ops.size) &&
  Region.orderB md ops (Region.orderB md ops (Region.seqL md ops (t0 :: ts)) hs) ps (Array.replicate ops.size false)

/-- **THE REGION**: operations that hang on no world first, the head in a class of worlds, the tail one by one. -/
theorem wp_region_mix {id : Nat} {Q : Exit → Act → World → Prop} {a : Act} {w : World} {l : List Oper} (C : World → Prop) (ps hs : List Nat) (t0 : Nat) (ts : List Nat) (hm : P.follows .mixedOrders = true)
    (hB : Region.mixB .any l.toArray ps hs t0 ts = true) (hQ : ∀ c a a' w, a'.defers = a.defers → Q (.panic c) a' w → Q (.panic c) a w) (hC : C w.drew)
    (h : wpQuiet P l.toArray (fun _ => True) (wpQuiet P l.toArray C (fun a' => ∀ w', C w' → wpList P l.toArray Q ((t0 :: ts).filterMap fun i => l[i]?) a' w') (hs.filterMap fun i => l[i]?)) (ps.filterMap fun i => l[i]?) a) : (Code.region id l.toArray true).wp P Q a w := by
  simp only [Region.mixB, Bool.and_eq_true, decide_eq_true_eq] at hB
  obtain ⟨⟨⟨⟨⟨⟨⟨⟨hval, hns⟩, hsk⟩, hlk⟩, hhs⟩, hts⟩, hcv⟩, hlen⟩, hord⟩ := hB
  replace h := pureWalk_of_quiet _ _ (by simpa using hval) h
  have hh1 : ∀ i ∈ hs, i < l.toArray.size := fun i hi => by have := List.all_eq_true.1 hhs i hi; simp only [Bool.and_eq_true, decide_eq_true_eq] at this; exact this.1
  have hh2 : ∀ i ∈ hs, i ∉ t0 :: ts := fun i hi => by
    have := List.all_eq_true.1 hhs i hi
    simp only [Bool.and_eq_true, Bool.not_eq_true'] at this
    have h2 := this.2
    intro hmem
    rw [List.contains_iff_mem.2 hmem] at h2
    cases h2
  have ht1 : ∀ i ∈ t0 :: ts, i ∉ ps ∧ i < l.toArray.size := fun i hi => by
    have := List.all_eq_true.1 hts i hi
    simp only [Bool.and_eq_true, Bool.not_eq_true', decide_eq_true_eq] at this
    refine ⟨fun hmem => ?_, this.2⟩
    rw [List.contains_iff_mem.2 hmem] at this
    cases this.1
  have hsome : ∀ r : List Nat, (∀ i ∈ r, i < l.toArray.size) → r.map (fun i => l.toArray[i]?) = (r.filterMap fun i => l[i]?).map some := by
    intro r
    induction r with
    | nil => intro _; rfl
    | cons i r ih =>
      intro hr
      have hi : i < l.length := by simpa using hr i (by simp)
      rw [List.map_cons, ih (fun x hx => hr x (by simp [hx]))]
      have e : l[i]? = some l[i] := List.getElem?_eq_getElem hi
      simp [e]
  have hordlt : ∀ (last : Array Bool → Bool) (r : List Nat) (s : Array Bool), Region.orderB .any l.toArray last r s = true → ∀ i ∈ r, i < l.toArray.size := by
    intro last r
    induction r with
    | nil => intro _ _ i hi; cases hi
    | cons x r ih =>
      intro s hs i hi
      simp only [Region.orderB, Bool.and_eq_true] at hs
      rcases List.mem_cons.1 hi with rfl | hi
      · have hr : i ∈ Region.ready .any l.toArray s := by simpa using hs.1.1
        obtain ⟨_, o, ho, _⟩ := mem_ready.1 hr
        exact (Array.getElem?_eq_some_iff.1 ho).1
      · exact ih _ hs.2 i hi
  refine wp_region_any hm ?_
  let inv0 : List Nat → Array Bool → Prop := fun r s => s.size = l.toArray.size ∧ (∀ j oj, l.toArray[j]? = some oj → s.getD j false = true → ∀ e ∈ oj.after, Region.binds .any e = true → s.getD e.on false = true) ∧
    (∀ j, s.getD j true = false → j < l.toArray.size ∧ (j ∉ ps ∨ j ∈ r)) ∧ (∀ j, j < l.toArray.size → j ∉ ps → s.getD j true = false) ∧ (∀ i ∈ r, i ∈ ps)
  have hstep : ∀ s i r, inv0 (i :: r) s → i ∈ Region.ready .any l.toArray s → inv0 r (s.setIfInBounds i true) := by
    intro s i r inv hi
    obtain ⟨_, oi, hoi, hall⟩ := mem_ready.1 hi
    obtain ⟨i1, i2, i3, i4, i5⟩ := inv
    refine ⟨by simp [i1], fun j oj hj hl e he hb => ?_, fun j hj => ?_, fun j hj hp => ?_, fun x hx => i5 x (by simp [hx])⟩
    · by_cases hij : i = j
      · have e2 : oj = oi := Option.some.inj (hj.symm.trans (hij ▸ hoi))
        rw [e2] at he
        exact getD_set_true (hall e he hb)
      · rw [getD_set_ne false hij] at hl
        exact getD_set_true (i2 j oj hj hl e he hb)
    · have hne : i ≠ j := by
        intro e
        rw [← e] at hj
        have hl : i < s.size := by rw [i1]; exact (Array.getElem?_eq_some_iff.1 hoi).1
        simp [hl] at hj
      rw [getD_set_ne true hne] at hj
      have h1 := i3 j hj
      refine ⟨h1.1, h1.2.imp (fun q => q) fun hm => ?_⟩
      rcases List.mem_cons.1 hm with h | h
      · exact absurd h.symm hne
      · exact h
    · have hne : i ≠ j := fun e => hp (e ▸ i5 i (by simp))
      rw [getD_set_ne true hne]; exact i4 j hj hp
  have final : ∀ s a, inv0 [] s → Region.orderB .any l.toArray (Region.seqL .any l.toArray (t0 :: ts)) hs s = true →
      wpQuiet P l.toArray C (fun a' => ∀ w', C w' → wpList P l.toArray Q ((t0 :: ts).filterMap fun i => l[i]?) a' w') (hs.filterMap fun i => l[i]?) a → wpAny P .any l.toArray Q (hs.length + (ts.length + 1)) s a w.drew := by
    intro s a inv hB hq
    obtain ⟨i1, i2, i3, i4, _⟩ := inv
    have linv : ListInv .any l.toArray hs (t0 :: ts) s := by
      refine ⟨i1, i2, fun t ht => i4 t (ht1 t ht).2 (ht1 t ht).1, fun j hj hu => ?_⟩
      have h1 := List.all_eq_true.1 hcv j (List.mem_range.2 hj)
      simp only [Bool.or_eq_true, List.contains_iff_mem] at h1
      rcases h1 with (h1 | h1) | h1
      · rcases (i3 j hu).2 with h2 | h2
        · exact absurd h1 h2
        · cases h2
      · exact .inl h1
      · exact .inr h1
    have H := headC_order (md := .any) (last := Region.seqL .any l.toArray (t0 :: ts)) hns hsk hlk hh1 hh2 (fun s h => seqL_ready h) hs _ s a (hsome hs hh1) (fun i hi => hi) linv hB hq
    exact any_of_headC (g := ts.length + 1) (fun s' a' w' hw' hL => any_of_seqL (t0 :: ts) _ s' a' w' (hsome _ fun i hi => (ht1 i hi).2) hL.1 (hL.2 w' hw')) _ s a w.drew hC H
  have R := any_of_pure (g := hs.length + (ts.length + 1)) (md := .any) (last := fun s => Region.orderB .any l.toArray (Region.seqL .any l.toArray (t0 :: ts)) hs s) hns hQ (R := _) (w := w.drew)
    inv0 hstep final ps _ _ a (hsome ps (hordlt _ ps _ hord)) ⟨by simp, fun j oj _ hl => (by rw [getD_replicate_false] at hl; cases hl), fun j hj => ⟨?_, ?_⟩, fun j hj _ => getD_in (by simpa using hj) (getD_replicate_false _ _), fun i hi => hi⟩ hord h
  · rw [hlen] at R; exact R
  · rcases Nat.lt_or_ge j l.toArray.size with h1 | h1
    · exact h1
    · have h2 : ¬ j < l.length := by simpa using h1
      simp [Array.getD, h2] at hj
  · by_cases hp : j ∈ ps
    · exact .inr hp
    · exact .inl hp

/-- One operation of such a head: a load of a whole array or struct. -/
theorem wpQuiet_load_blk {Q : Act → Prop} {rest : List Oper} {o : Oper} {a : Act} {g : Nat} {t : TypeId} {cs : Array Value} (hb : ∀ w, C w → Blk w g t cs) (hgd : o.guard = none) (ty : TypeId) (x : Operand) (ho : o.op = .load ty x)
    (hx : a.eval x = .pointer (some ⟨g, 0, none⟩)) (d : TypeDesc)
    (hu : P.underlying ty = some d) (hd : (match d with | .struct _ | .array _ _ => true | _ => false) = true) {n : Nat} (hi : (P.info? ty).map (·.size) = some n) (hn : cs.size = n)
    (h : wpQuiet P ops C Q rest (a.put o.dst (.agg cs))) : wpQuiet P ops C Q (o :: rest) a := by
  refine wpQuiet_step fun K hK => ?_
  rw [if_pos (by simp [Region.wanted, hgd])]
  refine ⟨_, fun w hw => ?_, hK _ h⟩
  unfold Oper.quietAt execOp
  simp only [ho, hx, Instr.loadAt, Instr.sureAddr, Sem.run_bind, Sem.run_pure, Result.andThen_ok, run_loadVar_row w g t ty cs (0, 0) d (hb w hw) hu hd (hn ▸ hi)]
  exact ⟨rfl, rfl⟩
/-- A call of a Go function whose contract holds in the whole class. -/
theorem wpQuiet_call {Q : Act → Prop} {rest : List Oper} {o : Oper} {a : Act} {f : FuncId} (hf : ∀ args w, (callFunc f args).run P w = .ok (.enter f args) w) (hgd : o.guard = none) (xs : List Operand) (ats : Array TypeId)
    (ho : o.op = .call { callee := .value (.func f), args := xs.toArray, argTypes := ats }) (vals : List Value) (hx : xs.map a.eval = vals) (v : Value)
    (hc : ∀ w, C w → Calls P f vals.toArray w fun e w' => e = .returned v ∧ C w') (h : wpQuiet P ops C Q rest (a.put o.dst v)) : wpQuiet P ops C Q (o :: rest) a := by
  refine wpQuiet_step fun K hK => ?_
  rw [if_pos (by simp [Region.wanted, hgd])]
  refine ⟨v, fun w hw => ?_, hK _ h⟩
  obtain ⟨dst, op, type, pos, after, guard⟩ := o
  simp only at ho
  subst ho
  unfold Oper.quietAt
  rw [execOp_call_go, hf]
  have e : #[] ++ xs.toArray.map a.eval ++ #[] = vals.toArray := by rw [← hx]; simp
  rw [e]
  exact ⟨rfl, hc w hw⟩
end
end Go

/- What the functions do that the statements share: bytes compared, copied, lent, kept. Plain facts. No condition. -/
namespace Go
open Go.RowKit
/-- The string that bytes are. -/
def str (l : List UInt8) : ByteArray := ⟨l.toArray⟩
theorem str_inj {l l' : List UInt8} (h : str l = str l') : l = l' := by
  unfold str at h
  injection h with h
  simpa using h
theorem str_eq (l l' : List UInt8) : (str l = str l') = (l = l') := propext ⟨str_inj, fun h => by rw [h]⟩
theorem str_beq (l l' : List UInt8) : ((str l).toList == (str l').toList) = decide (l = l') := by
  rw [ByteArray.toList_eq, ByteArray.toList_eq]
  by_cases h : l = l'
  · subst h; simp
  · rw [decide_eq_false h]; simpa [str] using h
theorem strOfNums_iu8 (l : List UInt8) : strOfNums (l.map iu8) = str l := by
  unfold strOfNums str
  rw [List.map_map]
  congr 2
  refine (List.map_congr_left fun b _ => ?_).trans (List.map_id l)
  simp [iu8]
theorem run_convert_str {P : Program} {w : World} {A : Option Addr} {l : List UInt8} (src dst e : TypeId) (hs : P.underlying src = some (.slice e)) (he : P.underlying e = some (.int .u8)) (hd : P.underlying dst = some .string)
    (n c : Nat) (hn : n = l.length) (h : Bytes w A l) : (convert src dst (.slice A n c)).run P w = .ok (.string (str l)) w := by
  subst hn
  cases hl : l with
  | nil =>
    cases A with
    | none => exact run_convert_bytes_nil w src e hs he _ _ dst hd
    | some a =>
      rw [run_convert_bytes_string w src dst e _ _ c hs he hd]
      have := run_bytesToString (P := P) w a 0 c [] (by rfl)
      exact this
  | cons x t =>
    have hp : 0 < l.length := by rw [hl]; simp
    obtain ⟨b, off, rfl, _, hc⟩ := h.at_ hp
    rw [← hl]
    have := run_convert_bytes_arg (P := P) w src e hs he b off l.length c (l.map iu8) (by simp) (fun i hi => by rw [hc i hi]; simp [hi]) dst hd
    rw [this, strOfNums_iu8]
theorem wpList_convert_str {P : Program} {w : World} {Q : Exit → Act → World → Prop} {ops : Array Oper} {rest : List Oper} {o : Oper} {a : Act} (hgd : o.guard = none) (src dst e : TypeId) (x : Operand) (ho : o.op = .convert src dst x)
    (hs : P.underlying src = some (.slice e)) (he : P.underlying e = some (.int .u8)) (hd : P.underlying dst = some .string)
    (A : Option Addr) (n c : Nat) (l : List UInt8) (hx : a.eval x = .slice A n c) (hn : n = l.length) (h : Bytes w A l) (hk : wpList P ops Q rest (a.put o.dst (.string (str l))) w) : wpList P ops Q (o :: rest) a w := by
  refine wpList_run (.string (str l)) hgd ?_ hk
  unfold execOp
  simp only [ho, hx, Sem.run_bind, run_convert_str src dst e hs he hd n c hn h, Result.andThen_ok, Sem.run_pure]
theorem wpList_make_bytes {P : Program} (w : World) {ops : Array Oper} {rest : List Oper} {o : Oper} {a : Act} {Q : Exit → Act → World → Prop}
    (hg : o.guard = none) (l c : Operand) (t : TypeId) (hop : o.op = Op.makeSlice t l c) (e : TypeId) (h1 : P.underlying t = some (.slice e)) (h2 : (P.info? e).map (fun i => (i.zero, i.size, i.bytes)) = some (some (.int .u8 0), 1, 1))
    (kl kc : IntKind) (L C : Int) (n m : Nat) (hl : a.eval l = .int kl L) (hc : a.eval c = .int kc C) (hL : L = (n : Int)) (hC : C = (m : Int)) (hnm : n ≤ m) (hm : m ≤ 140737488400000)
    (hK : ∀ w', Blk w' w.heap.size e ((List.replicate m 0).map u8v).toArray → Below w.heap.size w w' → w'.heap.size = w.heap.size + 1 → wpList P ops Q rest (a.put o.dst (.slice (some ⟨w.heap.size, 0, none⟩) n m)) w') :
    wpList P ops Q (o :: rest) a w := by
  obtain ⟨i, hi, hzz⟩ := Option.map_eq_some_iff.1 h2
  simp only [Prod.mk.injEq] at hzz
  obtain ⟨hz, hs, hb⟩ := hzz
  subst hL
  subst hC
  have hr := run_make (P := P) w t e i _ h1 hi hz kl kc n m (by omega) (by omega) (by rw [hb]; omega) (by omega)
  have e2 : madeCells (Value.int .u8 0).cells (m * i.size) = ((List.replicate m 0).map u8v).toArray := by
    rw [hs, Nat.mul_one]
    unfold madeCells
    apply Array.ext'
    simp [Value.cells, u8v, List.eq_replicate_iff]
    intro b x
    simp [Nat.mod_one, iu8]
  rw [Int.toNat_natCast, Int.toNat_natCast, e2] at hr
  refine wpList_plain hg fun K hK' => ?_
  unfold Oper.wp
  simp only [execOp, hop, hl, hc, hr, Sem.run_bind, Result.andThen_ok, Sem.run_pure]
  exact hK' _ _ (hK _ (Blk.new w e _) ((Below.refl _ _).alloc (Nat.le_refl _) _) (by simp))
theorem setRow_upd (w : World) (g : Nat) (cs : Array Value) : Upd g w (w.setRow g cs) := Upd.setRow w g cs
/-- copy(d, s), d in an own block of bytes from its head on. -/
theorem wpList_copy_bytes {P : Program} {w : World} {ops : Array Oper} {rest : List Oper} {o : Oper} {a : Act} {Q : Exit → Act → World → Prop} (hgd : o.guard = none) (d s : Operand) (dT sT : TypeId)
    (ho : o.op = .call { callee := .builtin .copy, args := #[d, s], argTypes := #[dT, sT] }) (elem : TypeId) (hu : P.underlying dT = some (.slice elem)) (hsz : (P.info? elem).map (·.size) = some 1)
    (g dLen dCap : Nat) (A : Option Addr) (sLen sCap : Nat) (hd : a.eval d = .slice (some ⟨g, 0, none⟩) dLen dCap) (hs : a.eval s = .slice A sLen sCap)
    (cur l : List UInt8) (t : TypeId) (hg : Blk w g t (cur.map u8v).toArray) (hn : l.length = sLen) (hb : Bytes w A l) (hfit : l.length ≤ cur.length) (hfit2 : l.length ≤ dLen)
    (h : ∀ w', Blk w' g t ((l ++ cur.drop l.length).map u8v).toArray → Upd g w w' → wpList P ops Q rest (a.put o.dst (goInt l.length)) w') : wpList P ops Q (o :: rest) a w := by
  by_cases h0 : l.length = 0
  · obtain rfl : l = [] := List.eq_nil_of_length_eq_zero h0
    simp at hn
    subst hn
    refine wpList_copy_nothing hgd d s dT sT ho elem hu hsz _ A dLen dCap 0 sCap hd hs (by simp) ?_
    exact h w (by simpa using hg) ⟨rfl, rfl, rfl, rfl, fun _ _ => rfl⟩
  · obtain ⟨b, off, rfl, _, hc⟩ := hb.at_ (by omega)
    have := wpList_copy_own (Q := Q) (rest := rest) (ops := ops) (w := w) hgd d s dT sT ho elem hu hsz g 0 dLen dCap ⟨b, off, none⟩ sLen sCap hd hs (cur.map u8v).toArray t hg (l.map u8v) (by rw [List.length_map, hn]; exact (Nat.min_eq_left (by omega)).symm)
      (fun j v hv => by
        have hj : j < l.length := by
          rcases Nat.lt_or_ge j l.length with h1 | h1
          · exact h1
          · simp [List.getElem?_eq_none h1] at hv
        have h2 := hc j hj
        simp [hj] at hv
        rw [Addr.add_lit, h2, ← hv]; simp [u8v, hj]) (by simpa using hfit) (u8v_one l)
    refine this ?_
    have e1 : ((((cur.map u8v).toArray.toList.take 0) ++ (l.map u8v ++ (cur.map u8v).toArray.toList.drop (0 + (l.map u8v).length))).toArray) = ((l ++ cur.drop l.length).map u8v).toArray := by simp
    rw [e1]
    have e2 : ((l.map u8v).length : Int) = (l.length : Int) := by simp
    rw [e2]
    exact h _ (hg.setRow _) (Upd.setRow _ _ _)
/-- A guarded operation that is wanted. -/
theorem wpList_want {P : Program} {w : World} {Q : Exit → Act → World → Prop} {ops : Array Oper} {rest : List Oper} {dst : Option Tmp} {op : Op} {ty : TypeId} {pos : String} {af : Array Edge} {g : Option (Nat × Bool)} {a : Act}
    (hw : Region.wanted ⟨dst, op, ty, pos, af, g⟩ (yielded ops a.tmps) = true) (h : wpList P ops Q (⟨dst, op, ty, pos, af, none⟩ :: rest) a w) : wpList P ops Q (⟨dst, op, ty, pos, af, g⟩ :: rest) a w := by
  unfold wpList at h ⊢
  rw [if_pos hw]
  rw [if_pos (by simp [Region.wanted])] at h
  exact h
/-- []byte("..") of a constant string. -/
theorem wpList_bytes_const {P : Program} {w : World} {Q : Exit → Act → World → Prop} {ops : Array Oper} {rest : List Oper} {o : Oper} {a : Act} (hgd : o.guard = none) (t e : TypeId) (x : Operand) (ho : o.op = .convert t t x)
    (ht : P.underlying t = some (.slice e)) (he : P.underlying e = some (.int .u8)) (l : List UInt8) (C : Array Value) (hC : C = (l.map u8v).toArray) (n : Nat) (hx : a.eval x = .slice (some ⟨w.heap.size, 0, none⟩) n n)
    (h : ∀ w', Bytes w' (some ⟨w.heap.size, 0, none⟩) l → Below w.heap.size w w' → w'.heap.size = w.heap.size + 1 → wpList P ops Q rest (a.put o.dst (.slice (some ⟨w.heap.size, 0, none⟩) n n)) w') : wpList P ops Q (o :: rest) a (w.alloc (.cells C e)) := by
  subst hC
  refine wpList_plain hgd fun K hK => ?_
  unfold Oper.wp execOp
  have hr := Lib.run_convert_bytes_const (P := P) w t e (l.map u8v).toArray n n ht he
  simp only [ho, hx, Sem.run_bind, hr, Result.andThen_ok, Sem.run_pure]
  refine hK _ _ (h _ (fun _ => ⟨w.heap.size, 0, rfl, fun j v hv => ?_⟩) ((Below.refl _ _).alloc (Nat.le_refl _) _) (by simp))
  have hh : (w.alloc (.cells (l.map u8v).toArray e ((l.map u8v).toArray.size, (l.map u8v).toArray.size + 1))).heap[w.heap.size]? = some (.cells (l.map u8v).toArray e ((l.map u8v).toArray.size, (l.map u8v).toArray.size + 1)) := heap_alloc_last w _
  rw [Nat.zero_add, cell_of_row _ _ _ _ _ _ hh]
  simpa using hv
/-- A block of bytes reads. -/
theorem Blk.bytes {w : World} {g : Nat} {t : TypeId} {l : List UInt8} (h : Blk w g t (l.map u8v).toArray) : Bytes w (some ⟨g, 0, none⟩) l := fun _ => ⟨g, 0, rfl, fun j u hu => by rw [h.cell]; simpa using hu⟩
theorem wpQuiet_convert_str {P : Program} {ops : Array Oper} {C : World → Prop} {Q : Act → Prop} {rest : List Oper} {o : Oper} {a : Act} (hgd : o.guard = none) (src dst e : TypeId) (x : Operand) (ho : o.op = .convert src dst x)
    (hs : P.underlying src = some (.slice e)) (he : P.underlying e = some (.int .u8)) (hd : P.underlying dst = some .string)
    (A : Option Addr) (n c : Nat) (l : List UInt8) (hx : a.eval x = .slice A n c) (hn : n = l.length) (hb : ∀ w, C w → Bytes w A l) (h : wpQuiet P ops C Q rest (a.put o.dst (.string (str l)))) : wpQuiet P ops C Q (o :: rest) a := by
  refine wpQuiet_step fun K hK => ?_
  rw [if_pos (by simp [Region.wanted, hgd])]
  refine ⟨_, fun w hw => ?_, hK _ h⟩
  unfold Oper.quietAt execOp
  simp only [ho, hx, Sem.run_bind, run_convert_str src dst e hs he hd n c hn (hb w hw), Result.andThen_ok, Sem.run_pure]
  exact ⟨rfl, rfl⟩
namespace Proofs.Ytmhfehhpfkjloaa
theorem sameBytes_any (A B : Option Addr) (n m c d : Nat) (l l' : List UInt8) (hn : n = l.length) (hm : m = l'.length) (w : World) (h : Bytes w A l) (h' : Bytes w B l') :
    Calls Try.prog 24 #[.slice A n c, .slice B m d] w fun e w' => e = .returned (.bool (decide (l = l'))) ∧ w' = w := by
  subst hn hm
  go_enter Try.func24, Try.ntmps24
  go_wp2_with (first
    | (show wpList _ _ _ ((⟨some 6, _, _, _, _, _⟩ : Oper) :: _) _ _; refine wpList_convert_str (o := ⟨some 6, _, _, _, _, _⟩) (by rfl) 43 9 5 _ (by rfl) Try.underlying43 Try.underlying5 Try.underlying9 A l.length c l (by rfl) rfl h ?_)
    | (show wpList _ _ _ ((⟨some 8, _, _, _, _, _⟩ : Oper) :: _) _ _; refine wpList_convert_str (o := ⟨some 8, _, _, _, _, _⟩) (by rfl) 43 9 5 _ (by rfl) Try.underlying43 Try.underlying5 Try.underlying9 B l'.length d l' (by rfl) rfl h' ?_))
  refine bodyPost_ret (results_tmp rfl _ _ _) rfl ⟨?_, rfl⟩
  simp [str_beq]
/-- What stands behind a list that is lent: three marks. -/
def mark1 (p : Nat) : UInt8 := UInt8.ofNat ((160 + p % 90) % 256)
def marks (n : Nat) : List UInt8 := [mark1 n, mark1 (n + 1), mark1 (n + 2)]
theorem lent_set (l : List UInt8) (n i : Nat) (h : i < 3) :
    ((l ++ ((marks n).take i ++ List.replicate (3 - i) 0)).map u8v).toArray.setIfInBounds (l.length + i) (.int .u8 (iu8 (mark1 (n + i)))) = ((l ++ ((marks n).take (i + 1) ++ List.replicate (3 - (i + 1)) 0)).map u8v).toArray := by
  apply Array.ext'
  simp only [List.setIfInBounds_toArray, List.map_append]
  have e : l.length + i = (l.map u8v).length + i := by simp
  rw [e, List.set_append_right _ _ (by omega), Nat.add_sub_cancel_left]
  congr 1
  have : i = 0 ∨ i = 1 ∨ i = 2 := by omega
  rcases this with rfl | rfl | rfl <;> simp [marks, List.replicate, u8v]
theorem size1 : (Try.prog.info? 5).map (·.size) = some 1 := by kernel_rfl
/-- Ahead of each mark. -/
def LentRel (w : World) (l : List UInt8) (v : Value) (wr : World) : Prop :=
  ∃ i : Nat, i ≤ 3 ∧ v = .int .i64 ((l.length + i : Nat) : Int) ∧ Blk wr w.heap.size 5 ((l ++ ((marks l.length).take i ++ List.replicate (3 - i) 0)).map u8v).toArray ∧ Below w.heap.size w wr
set_option maxHeartbeats 400000 in
theorem lentBytes_any (A : Option Addr) (n c : Nat) (l : List UInt8) (hn : n = l.length) (hl : l.length ≤ 140737488351300) (w : World) (h : Bytes w A l) :
    Calls Try.prog 19 #[.slice A n c] w fun e w' => e = .returned (.slice (some ⟨w.heap.size, 0, none⟩) l.length (l.length + 3)) ∧ Blk w' w.heap.size 5 ((l ++ marks l.length).map u8v).toArray ∧ Below w.heap.size w w' := by
  subst hn
  go_enter Try.func19, Try.ntmps19
  go_wp2_with (first
    | (show wpList _ _ _ ((⟨some 8, _, _, _, _, _⟩ : Oper) :: _) _ _; refine wpList_make_bytes (o := ⟨some 8, _, _, _, _, _⟩) _ (by rfl) _ _ _ (by rfl) _ Try.underlying43 u8info .i64 .i64 _ _ (l.length + 3) (l.length + 3) (by rfl) (by rfl) (by omega) (by omega) (Nat.le_refl _) (by omega) ?_; intro w1 h1 hb1 _; have hb := h.below hb1)
    | (show wpList _ _ _ ((⟨some 11, _, _, _, _, _⟩ : Oper) :: _) _ _; refine wpList_copy_bytes (o := ⟨some 11, _, _, _, _, _⟩) (by rfl) _ _ _ _ (by rfl) 5 Try.underlying43 size1 w.heap.size (l.length + 3) (l.length + 3) A l.length c (by rfl) (by rfl) (List.replicate (l.length + 3) 0) l _ h1 rfl hb (by simp) (by omega) ?_; intro w2 h2 hu2; have hb2 := hb1.upd hu2 (Nat.le_refl _); clear h1 hb1 hu2 hb)
    | fail)
  have h3 : Blk w2 w.heap.size 5 ((l ++ ((marks l.length).take 0 ++ List.replicate (3 - 0) 0)).map u8v).toArray := by
    refine h2.sub ?_
    simp
  clear h2
  go_loopw [4] (fun v wr => LentRel w l v wr) (fun v _ => l.length + 3 - (intOf v).toNat)
  case atStart => exact ⟨0, by omega, rfl, h3, hb2⟩
  case round =>
    clear h3 hb2
    obtain ⟨i, hi, rfl, hw, hbw⟩ := hrel
    obtain ⟨p, hp⟩ : ∃ p, p = l.length + i := ⟨_, rfl⟩
    rw [← hp]
    have HP := Lib.hid hp
    by_cases h3 : i < 3
    · have d0 : ∃ u, wr.cell? ⟨w.heap.size, p, none⟩ = some u := by
        rw [hw.cell]
        exact ⟨_, Array.getElem?_eq_getElem (by simp [marks]; omega)⟩
      obtain ⟨u, d0⟩ := d0
      have f0 := hw.frozen p
      have eb : 160 + (p : Int) % 90 = iu8 (mark1 p) := by unfold mark1; rw [iu8_ofNat _ (by omega)]; omega
      have hplt : p < l.length + 3 := by omega
      clear hp
      have ho := hw.set_ p (.int .u8 (iu8 (mark1 p)))
      replace ho := ho.sub (show _ = ((l ++ ((marks l.length).take (i + 1) ++ List.replicate (3 - (i + 1)) 0)).map u8v).toArray by rw [HP.out]; exact lent_set l l.length i h3)
      have HO := Lib.hid ho
      clear ho
      go_wp2
      go_roundw
      case rel => exact ⟨i + 1, by omega, by have := HP.out; go_num, HO.out, hbw.set_ (Nat.le_refl _) _⟩
      case measure => simp [intOf]; omega
    · obtain rfl : i = 3 := by omega
      have hp3 : p = l.length + 3 := hp
      subst hp3
      have HW := Lib.hid hw
      clear hw HP hp
      go_wp2
      go_ret
      exact ⟨rfl, HW.out.sub (by simp [marks]), hbw⟩
set_option maxHeartbeats 400000 in
theorem keptBytes_any (g d n c m : Nat) (B : Option Addr) (l : List UInt8) (hn : n = l.length) (hc : c = l.length + 3) (hm : m = l.length) (hl : l.length ≤ 140737488351300) (w : World) (h : Blk w g 5 ((l ++ marks l.length).map u8v).toArray) (hb : Bytes w B l) :
    Calls Try.prog 27 #[.slice (some ⟨g, 0, none⟩) n c, .slice B m d] w fun e w' => e = .returned (.bool true) ∧ Below w.heap.size w w' := by
  subst hn hc hm
  go_enter Try.func27, Try.ntmps27
  go_wp2
  refine wp_region_mix (fun w' => w' = w.drew) [0, 1, 2, 3, 4, 5, 6, 7, 8, 9, 10, 12, 13, 14] [] 11 [15, 16, 17, 18] (by kernel_rfl) (by kernel_rfl) (fun c a a' w h q => ⟨h ▸ q.1, q.2⟩) rfl ?_
  dsimp only [List.filterMap, List.getElem?_cons_zero, List.getElem?_cons_succ]
  repeat (go_big_quiet_step (fail))
  refine wpQuiet_nil ?_
  refine wpQuiet_nil ?_
  rintro w1 rfl
  go_wp2_with fail
  refine (lentBytes_any B l.length d l rfl hl w.drew (Bytes.below hb (Below.refl _ _).drew)).mono ?_
  rintro e w2 ⟨rfl, h2, hb2⟩
  have hb3 : Below w.heap.size w w2 := (Below.refl _ _).drew.trans hb2
  have h3 : Blk w2 g 5 ((l ++ marks l.length).map u8v).toArray := h.below hb3 h.lt
  go_wp2_with fail
  refine (sameBytes_any (some ⟨g, 0, none⟩) (some ⟨w.drew.heap.size, 0, none⟩) (l.length + 3) (l.length + 3) (l.length + 3) (l.length + 3) (l ++ marks l.length) (l ++ marks l.length) (by simp [marks]) (by simp [marks]) w2 h3.bytes h2.bytes).mono ?_
  rintro e w3 ⟨rfl, rfl⟩
  clear h2 h3 h
  go_wp2
  go_ret
  exact ⟨by simp, hb3⟩
end Proofs.Ytmhfehhpfkjloaa
end Go

/- Are numbers from 0 to a bound: the superblock's within. No condition but that the numbers can be read. -/
namespace Go.Proofs.Ytmhfehhpfkjloaa
open Go.RowKit
def InRel (w : World) (most : Int) (l : List Int) (v : Value) (wr : World) : Prop := ∃ i, i ≤ l.length ∧ v = .int .i64 (i : Int) ∧ wr = w ∧ (l.take i).all (numIn most) = true
set_option maxHeartbeats 1000000 in
theorem inside_any (most : Int) (l : List Int) (g : Nat) (w : World) (hl : ∀ i, (h : i < l.length) → w.cell? ⟨g, i, none⟩ = some (.int .i64 l[i])) (hlen : l.length ≤ 1000) :
    Calls Try.prog 65 #[.int .i64 most, .slice (some ⟨g, 0, none⟩) l.length l.length] w fun e w' => e = .returned (.bool (l.all (numIn most))) ∧ w' = w := by
  have HL := Lib.hid hl
  have HN := Lib.hid hlen
  have hS : InRel w most l (.int .i64 0) w := ⟨0, Nat.zero_le _, rfl, rfl, by simp⟩
  clear hl hlen
  go_enter Try.func65, Try.ntmps65
  go_wp2_with fail
  go_loopw [9] (fun v wr => InRel w most l v wr) (fun v _ => l.length - (intOf v).toNat)
  case atStart => exact hS
  case round =>
    clear hS
    obtain ⟨i, hi, rfl, rfl, hall⟩ := hrel
    have HA := Lib.hid hall
    by_cases hlt : i < l.length
    · have d0 := HL.out i hlt
      have hib : i < 65536 := by have := HN.out; omega
      obtain ⟨x, hx⟩ : ∃ x, x = l[i] := ⟨_, rfl⟩
      rw [← hx] at d0
      have hstep : (l.take (i + 1)).all (numIn most) = numIn most x := by
        rw [List.take_succ_eq_append_getElem hlt, List.all_append, HA.out, Bool.true_and, ← hx]; simp
      have hno : numIn most x = false → l.all (numIn most) = false := fun h => by
        rw [List.all_eq_false]
        exact ⟨l[i], List.getElem_mem _, by rw [← hx, h]; simp⟩
      have HS := Lib.hid (And.intro hstep hno)
      clear hall hx hstep hno
      by_cases h1 : x < 0
      · have HF := Lib.hid (HS.out.2 (by unfold numIn; rw [decide_eq_false (by omega), Bool.false_and]))
        go_wp2
        go_ret
        exact ⟨by rw [HF.out]; rfl, rfl⟩
      · by_cases h2 : most < x
        · have HF := Lib.hid (HS.out.2 (by unfold numIn; rw [decide_eq_false (p := x ≤ most) (by omega), Bool.and_false]))
          go_wp2
          go_ret
          exact ⟨by rw [HF.out]; rfl, rfl⟩
        · have HF := Lib.hid (HS.out.1.trans (by unfold numIn; rw [decide_eq_true (by omega), decide_eq_true (by omega)]))
          go_wp2
          go_roundw
          case rel => exact ⟨i + 1, by omega, by go_num, rfl, HF.out⟩
          case measure => simp [intOf]; omega
    · obtain rfl : i = l.length := by omega
      rw [List.take_length] at hall
      clear HA
      have HA := Lib.hid hall
      clear hall hi hlt
      go_wp2
      go_ret
      exact ⟨by rw [HA.out]; rfl, rfl⟩
end Go.Proofs.Ytmhfehhpfkjloaa

/- Loads of whole arrays and structs out of the middle of a block. Plain facts. Condition: the cells are known. -/
namespace Go.Proofs.Ytmhfehhpfkjloaa
open Go.RowKit
/-- A load of a whole array or struct out of the middle of a block. -/
theorem wpList_load_mid {P : Program} {w : World} {Q : Exit → Act → World → Prop} {ops : Array Oper} {rest : List Oper} {o : Oper} {a : Act} {b off : Nat} {cs : List Value} (hb : w.rangeAt b off cs) (hgd : o.guard = none) (ty : TypeId) (x : Operand) (ho : o.op = .load ty x)
    (hx : a.eval x = .pointer (some ⟨b, off, none⟩)) (d : TypeDesc) (hu : P.underlying ty = some d) (hd : d.isRow = true) {n : Nat} (hi : (P.info? ty).map (·.size) = some n) (hn : cs.length = n)
    (h : wpList P ops Q rest (a.put o.dst (.agg cs.toArray)) w) : wpList P ops Q (o :: rest) a w :=
  wpList_run (.agg cs.toArray) hgd (by
    unfold execOp
    simp only [ho, hx, Instr.loadAt, Instr.sureAddr, Sem.run_bind, Sem.run_pure, Result.andThen_ok, run_loadVar_mid w b off ty cs d hb hu hd (hn ▸ hi)]) h
theorem range2 {w : World} {b off : Nat} {u v : Value} (h1 : w.cell? ⟨b, off, none⟩ = some u) (h2 : w.cell? ⟨b, off + 1, none⟩ = some v) : w.rangeAt b off [u, v] := fun j x hx => by
  match j with
  | 0 => simp at hx; subst hx; exact h1
  | 1 => simp at hx; subst hx; exact h2
theorem Blk.range {w : World} {b : Nat} {t : TypeId} {cs : Array Value} (h : Blk w b t cs) (o : Nat) (l : List Value) (hl : ∀ j v, l[j]? = some v → cs[o + j]? = some v) : w.rangeAt b o l := fun j v hv => h.at_ (o + j) (hl j v hv)
end Go.Proofs.Ytmhfehhpfkjloaa

/- May a superblock be: the program's Check. Condition: its heads can be read. -/
namespace Go.Proofs.Ytmhfehhpfkjloaa
open Go.RowKit
/-- A superblock's cells. -/
def spc (f : HdF) (fe : Bool) (hv : Value) : Array Value := #[.int .i64 (f 0), .int .i64 (f 1), .int .i64 (f 2), .int .i64 (f 3), .int .i64 (f 4), .int .i64 (f 5), .int .i64 (f 6), .int .i64 (f 7), .int .i64 (f 8), .bool fe, hv]
/-- Heads can be read. -/
def Heads (w : World) (A : Option Addr) (hs : List (Int × Int)) : Prop := 0 < hs.length → ∃ b off, A = some ⟨b, off, none⟩ ∧ ∀ i, (h : i < hs.length) → w.cell? ⟨b, off + 2 * i, none⟩ = some (.int .i64 hs[i].1) ∧ w.cell? ⟨b, off + (2 * i + 1), none⟩ = some (.int .i64 hs[i].2)
theorem Heads.below {w w' : World} {A : Option Addr} {hs : List (Int × Int)} (h : Heads w A hs) (hb : Below w.heap.size w w') : Heads w' A hs := fun hp => by
  obtain ⟨b, off, e, hc⟩ := h hp
  have hlt := World.block_lt_of_cell? w _ (hc 0 hp).1
  exact ⟨b, off, e, fun i hi => ⟨(hb.cell (p := ⟨b, off + 2 * i, none⟩) hlt).trans (hc i hi).1, (hb.cell (p := ⟨b, off + (2 * i + 1), none⟩) hlt).trans (hc i hi).2⟩⟩
instance {w w' : World} {A : Option Addr} {hs : List (Int × Int)} : KeepsTo w w' (Heads w A hs) (Heads w' A hs) := ⟨fun hb h => h.below hb⟩
def six (f : HdF) : List Int := [f 0, f 3, f 4, f 5, f 6, f 8]
theorem inside_blk (most : Int) (l : List Int) (g : Nat) (w : World) (hb : Blk w g 3 (l.map fun x => Value.int .i64 x).toArray) (n : Nat) (hn : n = l.length) (hlen : l.length ≤ 1000) :
    Calls Try.prog 65 #[.int .i64 most, .slice (some ⟨g, 0, none⟩) n n] w fun e w' => e = .returned (.bool (l.all (numIn most))) ∧ w' = w := by
  subst hn
  refine inside_any most l g w (fun i h => hb.at_ i ?_) hlen
  rw [List.getElem?_toArray, List.getElem?_map, List.getElem?_eq_getElem h]; rfl
theorem sp_no1 {s : SpT} (h : ¬ 1 ≤ s.1 0 ∨ (six s.1).all (numIn 1073741824) = false ∨ [s.1 7].all (numIn 512) = false) : Sp.ok s = false := by
  unfold Sp.ok Sp.ok1
  rcases h with h | h | h
  · rw [decide_eq_false h]; rfl
  · unfold six at h
    simp only [List.all_cons, List.all_nil, Bool.and_true] at h
    rw [h, Bool.false_and, Bool.and_false, Bool.false_and]
  · simp only [List.all_cons, List.all_nil, Bool.and_true] at h
    rw [h, Bool.and_false, Bool.and_false, Bool.false_and]
theorem sp_no2 {s : SpT} (h : Sp.ok2 s.1 s.2.2.length = false ∨ s.2.2.all headOk = false) : Sp.ok s = false := by
  unfold Sp.ok
  rcases h with h | h
  · rw [h, Bool.false_and, Bool.and_false]
  · rw [h, Bool.and_false, Bool.and_false]
theorem ok2_case (f : HdF) (n : Nat) : Sp.ok2 f n = true ∨ (Sp.ok2 f n = false ∧ (¬ (f 2 = 3 ∨ f 2 = 5 ∨ f 2 = 7) ∨ ¬ 0 ≤ f 1 ∨ ¬ f 1 < f 2 ∨ ¬ n ≤ 32)) := by
  cases h : Sp.ok2 f n
  · right
    refine ⟨rfl, ?_⟩
    unfold Sp.ok2 at h
    by_cases h1 : f 2 = 3 ∨ f 2 = 5 ∨ f 2 = 7
    · by_cases h2 : 0 ≤ f 1
      · by_cases h3 : f 1 < f 2
        · by_cases h4 : n ≤ 32
          · exfalso
            rw [decide_eq_true h2, decide_eq_true h3, decide_eq_true h4] at h
            rcases h1 with h1 | h1 | h1 <;> rw [h1] at h <;> exact absurd h (by decide)
          · exact .inr (.inr (.inr h4))
        · exact .inr (.inr (.inl h3))
      · exact .inr (.inl h2)
    · exact .inl h1
  · exact .inl rfl
theorem ok2_true {f : HdF} {n : Nat} (h : Sp.ok2 f n = true) : (f 2 = 3 ∨ f 2 = 5 ∨ f 2 = 7) ∧ 0 ≤ f 1 ∧ f 1 < f 2 ∧ n ≤ 32 := by
  unfold Sp.ok2 at h
  simp only [Bool.and_eq_true, Bool.or_eq_true, beq_iff_eq, decide_eq_true_eq] at h
  exact h
theorem sp_yes {s : SpT} (h0 : 1 ≤ s.1 0) (h1 : (six s.1).all (numIn 1073741824) = true) (h2 : [s.1 7].all (numIn 512) = true) (h3 : Sp.ok2 s.1 s.2.2.length = true) (h4 : s.2.2.all headOk = true) : Sp.ok s = true := by
  unfold Sp.ok Sp.ok1
  unfold six at h1
  simp only [List.all_cons, List.all_nil, Bool.and_true] at h1 h2
  rw [decide_eq_true h0, h1, h2, h3, h4]; rfl
theorem sp_cells {w : World} {g : Nat} {f : HdF} {fe : Bool} {hv : Value} (hg : Blk w g 26 (spc f fe hv)) : w.cell? ⟨g, 0, none⟩ = some (.int .i64 (f 0)) ∧ w.cell? ⟨g, 1, none⟩ = some (.int .i64 (f 1)) ∧ w.cell? ⟨g, 2, none⟩ = some (.int .i64 (f 2)) ∧ w.cell? ⟨g, 3, none⟩ = some (.int .i64 (f 3)) ∧
    w.cell? ⟨g, 4, none⟩ = some (.int .i64 (f 4)) ∧ w.cell? ⟨g, 5, none⟩ = some (.int .i64 (f 5)) ∧ w.cell? ⟨g, 6, none⟩ = some (.int .i64 (f 6)) ∧ w.cell? ⟨g, 7, none⟩ = some (.int .i64 (f 7)) ∧ w.cell? ⟨g, 8, none⟩ = some (.int .i64 (f 8)) ∧ w.cell? ⟨g, 9, none⟩ = some (.bool fe) ∧ w.cell? ⟨g, 10, none⟩ = some hv :=
  ⟨hg.at_ 0 rfl, hg.at_ 1 rfl, hg.at_ 2 rfl, hg.at_ 3 rfl, hg.at_ 4 rfl, hg.at_ 5 rfl, hg.at_ 6 rfl, hg.at_ 7 rfl, hg.at_ 8 rfl, hg.at_ 9 rfl, hg.at_ 10 rfl⟩
def SpRel (w : World) (hs : List (Int × Int)) (v : Value) (wr : World) : Prop := ∃ i, i ≤ hs.length ∧ v = .int .i64 (i : Int) ∧ Below w.heap.size w wr ∧ (hs.take i).all headOk = true
theorem sizeHead : (Try.prog.info? 102).map (·.size) = some 2 := by kernel_rfl
def spCode (s : SpT) : Int := if Sp.ok s = true then 0 else 2
set_option maxRecDepth 100000 in
set_option maxHeartbeats 4000000 in
theorem spCheck_any (f : HdF) (fe : Bool) (A : Option Addr) (n c : Nat) (hs : List (Int × Int)) (w : World) (hn : n = hs.length) (hlen : hs.length ≤ 1000) (hh : Heads w A hs) :
    Calls Try.prog 25 #[.agg (spc f fe (.slice A n c))] w fun e w' => e = .returned (.int .i64 (spCode (f, fe, hs))) ∧ Below w.heap.size w w' := by
  have hg := Blk.new w 26 (spc f fe (.slice A n c))
  have hB := (Below.refl w.heap.size w).alloc (Nat.le_refl _) (.cells (spc f fe (.slice A n c)) 26)
  have hh1 := hh.below hB
  have HH := Lib.hid (And.intro hg (And.intro hB hh1))
  have HN := Lib.hid (And.intro hn hlen)
  obtain ⟨c0, -, c2, c3, c4, c5, c6, c7, c8, -, -⟩ := sp_cells hg
  clear hg hB hh1 hh hn hlen
  have hsz : (w.alloc (.cells (spc f fe (.slice A n c)) 26)).heap.size = w.heap.size + 1 := World.size_alloc ..
  change Hid (Blk (w.alloc (.cells #[.int .i64 (f 0), .int .i64 (f 1), .int .i64 (f 2), .int .i64 (f 3), .int .i64 (f 4), .int .i64 (f 5), .int .i64 (f 6), .int .i64 (f 7), .int .i64 (f 8), .bool fe, .slice A n c] 26)) _ _ (spc f fe (.slice A n c)) ∧ Below _ _ (w.alloc (.cells #[.int .i64 (f 0), .int .i64 (f 1), .int .i64 (f 2), .int .i64 (f 3), .int .i64 (f 4), .int .i64 (f 5), .int .i64 (f 6), .int .i64 (f 7), .int .i64 (f 8), .bool fe, .slice A n c] 26)) ∧ Heads (w.alloc (.cells #[.int .i64 (f 0), .int .i64 (f 1), .int .i64 (f 2), .int .i64 (f 3), .int .i64 (f 4), .int .i64 (f 5), .int .i64 (f 6), .int .i64 (f 7), .int .i64 (f 8), .bool fe, .slice A n c] 26)) _ _) at HH
  unfold spc at c0 c2 c3 c4 c5 c6 c7 c8 hsz ⊢
  by_cases h0 : 1 ≤ f 0
  case neg =>
    have HF := Lib.hid (sp_no1 (s := (f, fe, hs)) (.inl h0))
    go_enter Try.func25, Try.ntmps25
    go_wp2
    go_ret
    refine ⟨by unfold spCode; rw [HF.out]; rfl, HH.out.2.1⟩
  go_enter Try.func25, Try.ntmps25
  go_wp2_with fail
  generalize w.alloc (.cells #[.int .i64 (f 0), .int .i64 (f 1), .int .i64 (f 2), .int .i64 (f 3), .int .i64 (f 4), .int .i64 (f 5), .int .i64 (f 6), .int .i64 (f 7), .int .i64 (f 8), .bool fe, .slice A n c] 26) = w1 at HH c0 c2 c3 c4 c5 c6 c7 c8 hsz ⊢
  have h6 : Blk (w1.alloc (.cells ((six f).map fun x => Value.int .i64 x).toArray 3)) (w.heap.size + 1) 3 ((six f).map fun x => Value.int .i64 x).toArray := Blk.new' w1 _ _ hsz.symm
  have hb6 := (Below.refl w1.heap.size w1).alloc (Nat.le_refl _) (.cells ((six f).map fun x => Value.int .i64 x).toArray 3)
  have hs6 : (w1.alloc (.cells ((six f).map fun x => Value.int .i64 x).toArray 3)).heap.size = w1.heap.size + 1 := World.size_alloc ..
  rw [show w1.alloc (.cells #[.int .i64 (f 0), .int .i64 (f 3), .int .i64 (f 4), .int .i64 (f 5), .int .i64 (f 6), .int .i64 (f 8)] 3) = w1.alloc (.cells ((six f).map fun x => Value.int .i64 x).toArray 3) from rfl]
  generalize w1.alloc (.cells ((six f).map fun x => Value.int .i64 x).toArray 3) = w2 at h6 hb6 hs6 ⊢
  refine (inside_blk 1073741824 (six f) (w.heap.size + 1) w2 h6 6 rfl (by show 6 ≤ 1000; omega)).mono ?_
  rintro e w3 ⟨rfl, hw⟩
  obtain rfl := hw.symm
  have hg2 := HH.out.1.below hb6 HH.out.1.lt
  have HH2 := Lib.hid (And.intro hg2 (And.intro (HH.out.2.1.trans (hb6.mono HH.out.2.1.size)) (HH.out.2.2.below hb6)))
  clear c0 c2 c3 c4 c5 c6 c7 c8 h6 hb6 hw
  obtain ⟨c0, c1, c2, -, -, -, -, c7, -, -, -⟩ := sp_cells hg2
  clear hg2
  obtain ⟨b1, hb1⟩ : ∃ b, b = (six f).all (numIn 1073741824) := ⟨_, rfl⟩
  rw [← hb1]
  have HB1 := Lib.hid hb1
  clear hb1
  cases b1
  · have HF := Lib.hid (sp_no1 (s := (f, fe, hs)) (.inr (.inl HB1.out.symm)))
    go_wp2
    go_ret
    exact ⟨by unfold spCode; rw [HF.out]; rfl, HH2.out.2.1⟩
  go_wp2_with fail
  have h7 : Blk (w2.alloc (.cells ([f 7].map fun x => Value.int .i64 x).toArray 3)) (w.heap.size + 1 + 1) 3 ([f 7].map fun x => Value.int .i64 x).toArray := Blk.new' w2 _ _ (by rw [hs6, hsz])
  have hb7 := (Below.refl w2.heap.size w2).alloc (Nat.le_refl _) (.cells ([f 7].map fun x => Value.int .i64 x).toArray 3)
  rw [show w2.alloc (.cells #[.int .i64 (f 7)] 3) = w2.alloc (.cells ([f 7].map fun x => Value.int .i64 x).toArray 3) from rfl]
  generalize w2.alloc (.cells ([f 7].map fun x => Value.int .i64 x).toArray 3) = w4 at h7 hb7 ⊢
  refine (inside_blk 512 [f 7] (w.heap.size + 1 + 1) w4 h7 1 rfl (by show 1 ≤ 1000; omega)).mono ?_
  rintro e w5 ⟨rfl, hw⟩
  obtain rfl := hw.symm
  have hg2 := HH2.out.1.below hb7 HH2.out.1.lt
  have HH3 := Lib.hid (And.intro hg2 (And.intro (HH2.out.2.1.trans (hb7.mono HH2.out.2.1.size)) (HH2.out.2.2.below hb7)))
  clear c0 c1 c2 c7 h7 hb7 hw hs6 hsz HH HH2
  obtain ⟨-, c1, c2, -, -, -, -, -, -, -, c10⟩ := sp_cells hg2
  clear hg2
  obtain ⟨b2, hb2⟩ : ∃ b, b = [f 7].all (numIn 512) := ⟨_, rfl⟩
  rw [← hb2]
  have HB2 := Lib.hid hb2
  clear hb2
  have hgs : w.heap.size < w4.heap.size := HH3.out.1.lt
  cases b2
  · have HF := Lib.hid (sp_no1 (s := (f, fe, hs)) (.inr (.inr HB2.out.symm)))
    go_wp2
    go_ret
    exact ⟨by unfold spCode; rw [HF.out]; rfl, HH3.out.2.1⟩
  obtain rfl : n = hs.length := HN.out.1
  obtain ⟨N2, hN2⟩ : ∃ x, x = f 2 := ⟨_, rfl⟩
  rw [← hN2] at c2
  have H22 := Lib.hid hN2
  rcases ok2_case f hs.length with h2 | ⟨h2, hno⟩
  case inr =>
    have HF := Lib.hid (sp_no2 (s := (f, fe, hs)) (.inl h2))
    rw [← hN2] at hno
    have H2 := Lib.hid hno
    clear h2 hno hN2
    by_cases kN : N2 = 3 ∨ N2 = 5 ∨ N2 = 7
    · by_cases k1 : 0 ≤ f 1
      · by_cases k2 : f 1 < N2
        · have k4 : decide (hs.length ≤ 32) = false := by have := H2.out; simp; omega
          have k4b : decide ((hs.length : Int) ≤ 32) = false := by have := H2.out; simp; omega
          clear H2
          rcases kN with kN | kN | kN
          all_goals
            clear H22
            subst kN
            go_wp2
            go_ret
            exact ⟨by unfold spCode; rw [HF.out]; rfl, HH3.out.2.1⟩
        · clear H2
          rcases kN with kN | kN | kN
          all_goals
            clear H22
            subst kN
            go_wp2
            go_ret
            exact ⟨by unfold spCode; rw [HF.out]; rfl, HH3.out.2.1⟩
      · clear H2
        rcases kN with kN | kN | kN
        all_goals
          clear H22
          subst kN
          go_wp2
          go_ret
          exact ⟨by unfold spCode; rw [HF.out]; rfl, HH3.out.2.1⟩
    · have k3 : (N2 == 3) = false := by simp; omega
      have k5 : (N2 == 5) = false := by simp; omega
      have k7 : (N2 == 7) = false := by simp; omega
      clear H2 kN H22
      go_wp2
      go_ret
      exact ⟨by unfold spCode; rw [HF.out]; rfl, HH3.out.2.1⟩
  have h2' := ok2_true h2
  rw [← hN2] at h2'
  obtain ⟨kN, k1, k2, k4⟩ := h2'
  have H2 := Lib.hid h2
  have k4b : decide ((hs.length : Int) ≤ 32) = true := by simp; omega
  have k4c : decide (hs.length ≤ 32) = true := by simp; omega
  have HNO := Lib.hid (show ∀ i, (h : i < hs.length) → headOk hs[i] = false → Sp.ok (f, fe, hs) = false from fun i h hno => sp_no2 (.inr (List.all_eq_false.2 ⟨hs[i], List.getElem_mem _, by rw [hno]; simp⟩)))
  have HYES := Lib.hid (show hs.all headOk = true → Sp.ok (f, fe, hs) = true from fun h => sp_yes h0 HB1.out.symm HB2.out.symm h2 h)
  have hS : SpRel w4 hs (.int .i64 0) w4 := ⟨0, Nat.zero_le _, rfl, Below.refl _ _, by simp⟩
  clear h2 hN2
  rcases kN with kN | kN | kN
  all_goals
    clear H22
    subst kN
    go_wp2_with fail
    clear k1 k2 k4b k4c c1 c2 c10
    go_loopw [72] (fun v wr => SpRel w4 hs v wr) (fun v _ => hs.length - (intOf v).toNat)
    case atStart => exact hS
    case round =>
      clear hS
      obtain ⟨i, hi, rfl, hBr, hall⟩ := hrel
      have HA := Lib.hid (And.intro hBr hall)
      clear hBr hall
      by_cases hlt : i < hs.length
      · obtain ⟨b, off, rfl, hc⟩ := (HH3.out.2.2.below HA.out.1) (by omega)
        obtain ⟨d1, d2⟩ := hc i hlt
        obtain ⟨x, y, hxy⟩ : ∃ x y, hs[i] = (x, y) := ⟨_, _, rfl⟩
        rw [hxy] at d1 d2
        rw [Nat.mul_comm] at d1
        rw [show off + (2 * i + 1) = off + i * 2 + 1 by omega] at d2
        have HXY := Lib.hid hxy
        clear hc hxy
        have hib : i < 65536 := by omega
        have hbz := (Below.refl wr.heap.size wr).alloc (Nat.le_refl _) (.cells #[.int .i64 x, .int .i64 y] 102)
        have hsz : (wr.alloc (.cells #[.int .i64 x, .int .i64 y] 102)).heap.size = wr.heap.size + 1 := World.size_alloc ..
        have hbl := Blk.new' (wr.alloc (.cells #[.int .i64 x, .int .i64 y] 102)) 3 #[.int .i64 x, .int .i64 y] hsz.symm
        have hb2 := hbz.alloc (by rw [hsz]; omega) (.cells #[.int .i64 x, .int .i64 y] 3)
        clear hsz hbz
        go_wp2_with (first
          | ((with_reducible show wpList _ _ _ ((⟨some 75, _, _, _, _, _⟩ : Oper) :: _) _ _); refine wpList_load_mid (o := ⟨some 75, _, _, _, _, _⟩) (range2 (b := b) (off := off + i * 2) (u := .int .i64 x) (v := .int .i64 y) (exact d1) (exact d2)) (by rfl) _ _ (by rfl) (by rfl) _ Try.underlying102 (by rfl) sizeHead (by rfl) ?_)
          | fail)
        generalize (wr.alloc (.cells #[.int .i64 x, .int .i64 y] 102)).alloc (.cells #[.int .i64 x, .int .i64 y] 3) = w7 at hbl hb2 ⊢
        refine (inside_blk 1073741824 [x, y] (wr.heap.size + 1) w7 hbl 2 rfl (by show 2 ≤ 1000; omega)).mono ?_
        rintro e w8 ⟨rfl, hw⟩
        obtain rfl := hw.symm
        clear hw hbl d1 d2
        have HB7 := Lib.hid (HA.out.1.trans (hb2.mono HA.out.1.size))
        clear hb2
        obtain ⟨q, hq⟩ : ∃ q, q = headOk (x, y) := ⟨_, rfl⟩
        rw [show [x, y].all (numIn 1073741824) = headOk (x, y) by unfold headOk; simp, ← hq]
        have HQ := Lib.hid hq
        clear hq
        cases q
        · have HF := Lib.hid (HNO.out i hlt (by rw [HXY.out]; exact HQ.out.symm))
          go_wp2
          go_ret
          exact ⟨by unfold spCode; rw [HF.out]; rfl, HH3.out.2.1.trans (HB7.out.mono HH3.out.2.1.size)⟩
        · go_wp2
          go_roundw
          case rel => exact ⟨i + 1, by omega, by go_num, HB7.out, by rw [List.take_succ_eq_append_getElem hlt, List.all_append, HA.out.2, Bool.true_and, HXY.out]; simp [← HQ.out]⟩
          case measure => simp [intOf]; omega
      · obtain rfl : i = hs.length := by omega
        have HF := Lib.hid (HYES.out (by have h := HA.out.2; rw [List.take_length] at h; exact h))
        clear hi hlt
        go_wp2
        go_ret
        exact ⟨by unfold spCode; rw [HF.out]; rfl, HH3.out.2.1.trans (HA.out.1.mono HH3.out.2.1.size)⟩
end Go.Proofs.Ytmhfehhpfkjloaa

/- A slice of ints that the call has built, and append to it. Plain facts over any program. Condition: at most 2^40 ints. -/
namespace Go
open Go.RowKit
def iv (x : Int) : Value := .int .i64 x
def OwnI (e : TypeId) (w : World) (base : Nat) (v : Value) (l sp : List Int) : Prop := OwnsC e 1 w base v l.length (l.map iv) (sp.map iv)
theorem iv_list {xs : List Value} (h : ∀ u ∈ xs, ∃ b, u = iv b) : ∃ l : List Int, xs = l.map iv := by
  induction xs with
  | nil => exact ⟨[], rfl⟩
  | cons x xs ih =>
    obtain ⟨b, rfl⟩ := h x (by simp)
    obtain ⟨l, rfl⟩ := ih fun u hu => h u (by simp [hu])
    exact ⟨b :: l, rfl⟩
theorem iv_one (l : List Int) : ∀ u ∈ l.map iv, u.oneCell' = true := by
  intro u hu; simp only [List.mem_map] at hu; obtain ⟨b, _, rfl⟩ := hu; rfl
section
variable {P : Program} {w : World}
theorem wp_append_ints {o : Oper} {a : Act} {K : Act → World → Prop} {Q : Exit → Act → World → Prop} (s x : Operand) (t : TypeId)
    (ho : o.op = .call { callee := .builtin .append, args := #[s, x], argTypes := #[t, t] })
    (base : Nat) (e : TypeId) (ht : P.underlying t = some (.slice e)) (hi : (P.info? e).map (fun i => (i.zero, i.size, i.bytes)) = some (some (.int .i64 0), 1, 8))
    (v : Value) (l sp : List Int) (hs : a.eval s = v) (hown : OwnI e w base v l sp)
    (A : Option Addr) (c : Nat) (m : List Int) (hx : a.eval x = .slice A m.length c) (hr : Reads w A (m.map iv)) (hlen : l.length + m.length ≤ 1099511627776) (hbase : base ≤ w.heap.size)
    (h : ∀ v' w' sp', OwnI e w' base v' (l ++ m) sp' → w.grownBy w' v.ownBlock → (v'.ownBlock = v.ownBlock ∨ v'.ownBlock = some w.heap.size) → (v' = .slice none 0 0 ↔ v = .slice none 0 0 ∧ m.length = 0) → K (a.put o.dst v') w') : o.wp P a w K Q := by
  refine wp_append_all s x t ho base e (.int .i64 0) 1 8 ht hi rfl (by omega) v l.length (l.map iv) (sp.map iv) hs hown A m.length c (m.map iv) hx (by simp) hr (iv_one m) (by simp only [maxLen]; omega) (by omega) hbase ?_
  intro v' w' sp' h1 h2 h3 h4 h5
  obtain ⟨q, rfl⟩ := iv_list (xs := sp') (fun u hu => by
    rcases h4 u hu with h | h
    · simp only [List.mem_map] at h; obtain ⟨b, _, rfl⟩ := h; exact ⟨b, rfl⟩
    · simp [Value.cells] at h; exact ⟨0, by rw [h]; rfl⟩)
  refine h v' w' q ?_ h2 h3 h5
  unfold OwnI
  rw [List.map_append, List.length_append]
  exact h1
theorem wpList_append_ints {ops : Array Oper} {rest : List Oper} {o : Oper} {a : Act} {Q : Exit → Act → World → Prop} (hgd : o.guard = none) (s x : Operand) (t : TypeId)
    (ho : o.op = .call { callee := .builtin .append, args := #[s, x], argTypes := #[t, t] })
    (base : Nat) (e : TypeId) (ht : P.underlying t = some (.slice e)) (hi : (P.info? e).map (fun i => (i.zero, i.size, i.bytes)) = some (some (.int .i64 0), 1, 8))
    (v : Value) (l sp : List Int) (hs : a.eval s = v) (hown : OwnI e w base v l sp)
    (A : Option Addr) (c : Nat) (m : List Int) (hx : a.eval x = .slice A m.length c) (hr : Reads w A (m.map iv)) (hlen : l.length + m.length ≤ 1099511627776) (hbase : base ≤ w.heap.size)
    (h : ∀ v' w' sp', OwnI e w' base v' (l ++ m) sp' → w.grownBy w' v.ownBlock → (v'.ownBlock = v.ownBlock ∨ v'.ownBlock = some w.heap.size) → (v' = .slice none 0 0 ↔ v = .slice none 0 0 ∧ m.length = 0) → wpList P ops Q rest (a.put o.dst v') w') : wpList P ops Q (o :: rest) a w :=
  wpList_plain hgd fun _ hK => wp_append_ints s x t ho base e ht hi v l sp hs hown A c m hx hr hlen hbase fun v' w' sp' h1 h2 h3 h4 => hK _ _ (h v' w' sp' h1 h2 h3 h4)
end
end Go

/- The bytes of a superblock while they are laid. Plain facts. No condition. -/
namespace Go.Proofs.Ytmhfehhpfkjloaa
/-- Sixteen noughts, the first j numbers, k bytes of the next, noughts. -/
def rawAt (l : List Int) (j k : Nat) : List UInt8 := List.replicate 16 0 ++ (fours' (l.take j) ++ ((le4 (l.getD j 0).toNat).take k ++ List.replicate (496 - 4 * j - k) 0))
theorem le4_len (n : Nat) : (le4 n).length = 4 := rfl
theorem rawAt_length (l : List Int) (j k : Nat) (hj : j ≤ l.length) (hk : k ≤ 4) (hl : 4 * j + k ≤ 496) : (rawAt l j k).length = 512 := by
  unfold rawAt
  rw [List.length_append, List.length_append, List.length_append, List.length_replicate, List.length_replicate, fours'_length, List.length_take, List.length_take, le4_len]
  omega
theorem rawAt_zero (l : List Int) : rawAt l 0 0 = List.replicate 512 0 := by
  unfold rawAt fours'
  simp only [List.take_zero, List.flatMap_nil, List.nil_append]
  rw [List.replicate_append_replicate]
theorem rawAt_next (l : List Int) (j : Nat) (hj : j < l.length) (hl : 4 * (j + 1) ≤ 496) : rawAt l j 4 = rawAt l (j + 1) 0 := by
  unfold rawAt
  have h1 : fours' (l.take (j + 1)) = fours' (l.take j) ++ le4 (l.getD j 0).toNat := by
    unfold fours'
    rw [List.take_succ_eq_append_getElem hj, List.flatMap_append, List.getD_eq_getElem?_getD, List.getElem?_eq_getElem hj]; simp
  rw [h1, show (le4 (l.getD j 0).toNat).take 4 = le4 (l.getD j 0).toNat from rfl, List.take_zero, List.nil_append, List.append_assoc, show 496 - 4 * (j + 1) - 0 = 496 - 4 * j - 4 by omega]
theorem rawAt_set (l : List Int) (j k : Nat) (hj : j ≤ l.length) (hk : k < 4) (hl : 4 * j + k < 496) : (rawAt l j k).set (16 + 4 * j + k) ((le4 (l.getD j 0).toNat)[k]'(by rw [le4_len]; exact hk)) = rawAt l j (k + 1) := by
  unfold rawAt
  have hF : (fours' (l.take j)).length = 4 * j := by rw [fours'_length, List.length_take]; omega
  have hT : ((le4 (l.getD j 0).toNat).take k).length = k := by rw [List.length_take, le4_len]; omega
  rw [List.set_append_right _ _ (by rw [List.length_replicate]; omega), List.length_replicate, List.set_append_right _ _ (by rw [hF]; omega), hF, List.set_append_right _ _ (by rw [hT]; omega), hT]
  rw [show 16 + 4 * j + k - 16 - 4 * j - k = 0 by omega]
  obtain ⟨m, hm⟩ : ∃ m, 496 - 4 * j - k = m + 1 := ⟨496 - 4 * j - k - 1, by omega⟩
  rw [hm, List.replicate_succ (n := m), List.set_cons_zero, List.take_succ_eq_append_getElem (by rw [le4_len]; exact hk), List.append_assoc, show 496 - 4 * j - (k + 1) = m by omega]
  rfl
theorem rawAt_end (s : SpT) : rawAt (Sp.nums s) (Sp.nums s).length 0 = List.replicate 16 0 ++ Sp.rest s := by
  unfold rawAt Sp.rest
  rw [List.take_length, List.take_zero, List.nil_append, Nat.sub_zero]
end Go.Proofs.Ytmhfehhpfkjloaa
