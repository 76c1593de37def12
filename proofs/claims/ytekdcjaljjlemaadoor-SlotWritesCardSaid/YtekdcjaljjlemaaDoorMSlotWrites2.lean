/- A region that draws its order: a head whose operations, calls among them, yield one value in every world of a class and stay in the class, and behind it a few operations in one forced order. Plain facts over any program. No condition. -/
import Derived.Test.YtekdcjaljjlemaaDoorMSlotWrites1
import Derived.Laws.BytesArg
import Derived.Laws.CopyOwn
import Derived.BigQuiet
import Derived.Lib.SlBytesConst
import Derived.Test.YtekdcjaljjlemaaDoorRows
namespace Go
section
variable {P : Program} {ops : Array Oper} {md : Region.Mode} {C : World → Prop} {n : Nat}

/-! The head 'hs' and the tail 'ts' are told by lists of places; others have come up before. -/
def Region.linkB (md : Region.Mode) (ops : Array Oper) : List Nat → Bool
  | t :: t' :: r => Region.waitsFor md ops t' t && Region.linkB md ops (t' :: r)
  | _ => true
/-- Each place of the head is waited for by a later one of the head, or by the tail's first. -/
def Region.sinkL (md : Region.Mode) (ops : Array Oper) (hs : List Nat) (t : Nat) : Bool := hs.all fun i => (t :: hs).any fun j => decide (i < j) && Region.waitsFor md ops j i
/-- What has come up is closed under what it waits for; the tail has not come up. -/
structure ListInv (md : Region.Mode) (ops : Array Oper) (hs ts : List Nat) (s : Array Bool) : Prop where
  size : s.size = ops.size
  closed : ∀ j oj, ops[j]? = some oj → s.getD j false = true → ∀ e ∈ oj.after, Region.binds md e = true → s.getD e.on false = true
  tail : ∀ t ∈ ts, s.getD t true = false
  cover : ∀ j, j < ops.size → s.getD j true = false → j ∈ hs ∨ j ∈ ts
theorem ListInv.set {hs ts : List Nat} {s : Array Bool} {i : Nat} (inv : ListInv md ops hs ts s) (hi : i ∈ Region.ready md ops s) (hn : i ∉ ts) : ListInv md ops hs ts (s.setIfInBounds i true) := by
  obtain ⟨_, oi, hoi, hall⟩ := mem_ready.1 hi
  refine ⟨by simp [inv.size], fun j oj hj hl e he hb => ?_, fun t ht => ?_, fun j hj hu => ?_⟩
  · by_cases hij : i = j
    · have e2 : oj = oi := Option.some.inj (hj.symm.trans (hij ▸ hoi))
      rw [e2] at he
      exact getD_set_true (hall e he hb)
    · rw [getD_set_ne false hij] at hl
      exact getD_set_true (inv.closed j oj hj hl e he hb)
  · have hne : i ≠ t := fun e => hn (e ▸ ht)
    rw [getD_set_ne true hne]; exact inv.tail t ht
  · by_cases hij : i = j
    · rw [← hij] at hj hu
      have : i < s.size := by rw [inv.size]; exact hj
      simp [this] at hu
    · rw [getD_set_ne true hij] at hu; exact inv.cover j hj hu
/-- As long as one of the head has not come up none of the tail is ready. -/
theorem tail_late {hs : List Nat} {t0 : Nat} {ts : List Nat} {s : Array Bool} (hsk : Region.sinkL md ops hs t0 = true) (hlk : Region.linkB md ops (t0 :: ts) = true)
    (hlt : ∀ i ∈ hs, i < ops.size) (inv : ListInv md ops hs (t0 :: ts) s) :
    ∀ (d i : Nat), ops.size - i = d → i ∈ hs → s.getD i true = false → ∀ t ∈ t0 :: ts, t ∉ Region.ready md ops s := by
  intro d
  induction d using Nat.strongRecOn with
  | _ d ih =>
    intro i hd hi hun t ht hr
    by_cases e0 : t = t0
    · have h1 := List.all_eq_true.1 hsk i hi
      obtain ⟨j, hj, hj2⟩ := List.any_eq_true.1 h1
      simp only [Bool.and_eq_true, decide_eq_true_eq] at hj2
      obtain ⟨oj, hoj, e, he, hb, hon⟩ := Region.waitsFor_spec hj2.2
      have hjlt : j < ops.size := (Array.getElem?_eq_some_iff.1 hoj).1
      by_cases ejt : j = t0
      · obtain ⟨_, o2, ho2, hall⟩ := mem_ready.1 hr
        rw [e0, ← ejt] at ho2
        have : o2 = oj := Option.some.inj (ho2.symm.trans hoj)
        rw [this] at hall
        have h2 := hall e he hb
        rw [hon, getD_both hun] at h2
        cases h2
      · have hjh : j ∈ hs := by
          rcases List.mem_cons.1 hj with h | h
          · exact absurd h ejt
          · exact h
        cases hl : s.getD j false with
        | true =>
          have h2 := inv.closed j oj hoj hl e he hb
          rw [hon, getD_both hun] at h2
          cases h2
        | false =>
          have hjs : j < s.size := by rw [inv.size]; exact hjlt
          exact ih (ops.size - j) (by have := hlt i hi; omega) j rfl hjh (getD_in hjs hl) t ht hr
    · have hts : t ∈ ts := by
        rcases List.mem_cons.1 ht with h | h
        · exact absurd h e0
        · exact h
      have key : ∀ (l : List Nat) (p : Nat), Region.linkB md ops (p :: l) = true → t ∈ l → ∃ q, (q = p ∨ q ∈ l) ∧ Region.waitsFor md ops t q = true := by
        intro l
        induction l with
        | nil => intro p _ h; cases h
        | cons x l ih2 =>
          intro p hp h
          simp only [Region.linkB, Bool.and_eq_true] at hp
          rcases List.mem_cons.1 h with h | h
          · exact ⟨p, .inl rfl, by rw [h]; exact hp.1⟩
          · obtain ⟨q, hq, hw⟩ := ih2 x hp.2 h
            refine ⟨q, .inr ?_, hw⟩
            rcases hq with rfl | hq
            · simp
            · simp [hq]
      obtain ⟨q, hq, hw⟩ := key ts t0 hlk hts
      obtain ⟨ot, hot, e, he, hb, hon⟩ := Region.waitsFor_spec hw
      obtain ⟨_, o2, ho2, hall⟩ := mem_ready.1 hr
      have : o2 = ot := Option.some.inj (ho2.symm.trans hot)
      rw [this] at hall
      have h2 := hall e he hb
      have hqu : s.getD q true = false := inv.tail q (by rcases hq with rfl | hq <;> simp [*])
      rw [hon, getD_both hqu] at h2
      cases h2


/-- f operations of the head come up next, in whatever order; behind them L. -/
def HeadC (P : Program) (md : Region.Mode) (ops : Array Oper) (C : World → Prop) (L : Array Bool → Act → Prop) : Nat → Array Bool → Act → Prop
  | 0, s, a => L s a
  | f + 1, s, a => Region.ready md ops s ≠ [] ∧ ∀ i ∈ Region.ready md ops s, qOp P ops C i (HeadC P md ops C L f (s.setIfInBounds i true)) a

theorem any_of_headC {g : Nat} {L : Array Bool → Act → Prop} {Q : Exit → Act → World → Prop} (hL : ∀ s a w, C w → L s a → wpAny P md ops Q g s a w) (f : Nat) :
    ∀ (s : Array Bool) (a : Act) (w : World), C w → HeadC P md ops C L f s a → wpAny P md ops Q (f + g) s a w := by
  induction f with
  | zero => intro s a w hw h; rw [Nat.zero_add]; exact hL s a w hw h
  | succ f ih =>
    intro s a w hw h
    have e : f + 1 + g = (f + g) + 1 := by omega
    rw [e]
    exact ⟨fun h0 => absurd h0 h.1, fun i hi => wpOp_of_qOp hw (fun a' w' hw' h' => ih _ a' w' hw' h') (h.2 i hi)⟩

/-- An operation that is ready and yields its value in the whole class may be taken first. -/
theorem headC_first {hs ts : List Nat} {t0 i : Nat} {oi : Oper} {v : Value} {L : Array Bool → Act → Prop} (hi : ops[i]? = some oi) (hns : Region.noSelect ops = true)
    (hsk : Region.sinkL md ops hs t0 = true) (hlk : Region.linkB md ops (t0 :: ts) = true) (hlt : ∀ i ∈ hs, i < ops.size) (hdis : ∀ i ∈ hs, i ∉ t0 :: ts) (hin : i ∈ hs)
    (hL : ∀ s a, L s a → ∀ j ∈ Region.ready md ops s, j ∈ t0 :: ts) (f : Nat) :
    ∀ (s : Array Bool) (a : Act), ListInv md ops hs (t0 :: ts) s →
      (∀ j oj, ops[j]? = some oj → j ≠ i → s.getD j true = false → (∀ e ∈ oj.after, Region.binds md e = true → e.on ≠ i) → oi.apart ops oj = true) →
      i ∈ Region.ready md ops s → YieldsIn P ops C oi v a →
      HeadC P md ops C L f (s.setIfInBounds i true) (a.put oi.dst v) → HeadC P md ops C L (f + 1) s a := by
  have sel := fun (j : Nat) (o : Oper) cs b => Region.noSelect_spec hns j o cs b
  induction f with
  | zero =>
    intro s a inv _ hr hy H
    refine ⟨fun h => (by rw [h] at hr; cases hr), fun j hj => ?_⟩
    by_cases e : j = i
    · rw [e]; exact hy.qOp hi H
    · exact absurd hj (tail_late hsk hlk hlt inv _ i rfl hin (mem_ready.1 hr).1 j (hL _ _ H j (ready_mono hj e)))
  | succ f ih =>
    intro s a inv hfree hr hy H
    have hun := (mem_ready.1 hr).1
    refine ⟨fun h => (by rw [h] at hr; cases hr), fun j hj => ?_⟩
    by_cases e : j = i
    · rw [e]; exact hy.qOp hi H
    · obtain ⟨hju, oj, hoj, hall⟩ := mem_ready.1 hj
      have hjh : j ∈ hs := by
        rcases inv.cover j (Array.getElem?_eq_some_iff.1 hoj).1 hju with h | h
        · exact h
        · exact absurd hj (tail_late hsk hlk hlt inv _ i rfl hin hun j h)
      have hno : ∀ x ∈ oj.after, Region.binds md x = true → x.on ≠ i := by
        intro x hx hb hxi
        have h1 := hall x hx hb
        rw [hxi, getD_both hun] at h1
        cases h1
      have h2 := qOp_put hoj (hfree j oj hoj e hju hno) (fun cs b => sel i oi cs b hi) (fun cs b => sel j oj cs b hoj) hy (H.2 j (ready_mono hj e))
      have hfree2 : ∀ k ok, ops[k]? = some ok → k ≠ i → (s.setIfInBounds j true).getD k true = false →
          (∀ x ∈ ok.after, Region.binds md x = true → x.on ≠ i) → oi.apart ops ok = true := by
        intro k ok hk hki hkun hkno
        refine hfree k ok hk hki ?_ hkno
        by_cases ejk : j = k
        · rw [← ejk]; exact hju
        · rw [getD_set_ne true ejk] at hkun; exact hkun
      refine qOp_mono (fun a' h3 => ih _ a' (inv.set hj (hdis j hjh)) hfree2 (ready_mono hr (Ne.symm e)) h3.1 ?_) h2
      rw [Array.setIfInBounds_comm _ _ e]
      exact h3.2

/-- The places in this order may be taken one by one; 'last' holds of what has come up then. -/
def Region.orderB (md : Region.Mode) (ops : Array Oper) (last : Array Bool → Bool) : List Nat → Array Bool → Bool
  | [], s => last s
  | i :: r, s => (Region.ready md ops s).contains i && Region.free md ops s i && Region.orderB md ops last r (s.setIfInBounds i true)
/-- The head, one by one. -/
theorem headC_order {hs ts : List Nat} {t0 : Nat} {L : Act → Prop} {last : Array Bool → Bool} (hns : Region.noSelect ops = true)
    (hsk : Region.sinkL md ops hs t0 = true) (hlk : Region.linkB md ops (t0 :: ts) = true) (hlt : ∀ i ∈ hs, i < ops.size) (hdis : ∀ i ∈ hs, i ∉ t0 :: ts)
    (hlast : ∀ s, last s = true → ∀ j ∈ Region.ready md ops s, j ∈ t0 :: ts) (r : List Nat) :
    ∀ (l : List Oper) (s : Array Bool) (a : Act), r.map (fun i => ops[i]?) = l.map some → (∀ i ∈ r, i ∈ hs) → ListInv md ops hs (t0 :: ts) s →
    Region.orderB md ops last r s = true → wpQuiet P ops C L l a →
    HeadC P md ops C (fun s' a' => last s' = true ∧ L a') r.length s a := by
  induction r with
  | nil =>
    intro l s a hl _ _ hB h
    cases l with
    | nil => exact ⟨hB, h⟩
    | cons _ _ => simp at hl
  | cons i r ih =>
    intro l s a hl hin inv hB h
    cases l with
    | nil => simp at hl
    | cons o l =>
      simp only [List.map_cons, List.cons.injEq] at hl
      simp only [Region.orderB, Bool.and_eq_true] at hB
      have hr : i ∈ Region.ready md ops s := by simpa using hB.1.1
      have hq : qOp P ops C i (wpQuiet P ops C L l) a := by unfold qOp; simp only [hl.1]; exact h
      obtain ⟨v, hy, hK⟩ := yieldsIn_of_qOp hl.1 hq
      have hih := hin i (by simp)
      refine headC_first hl.1 hns hsk hlk hlt hdis hih (fun s' a' h' => hlast s' h'.1) r.length s a inv (Region.free_spec hl.1 hB.1.2) hr hy ?_
      exact ih l _ _ hl.2 (fun x hx => hin x (by simp [hx])) (inv.set hr (hdis i hih)) hB.2 hK

/-- Operations that yield their value in whatever world, taken first one by one; behind them Q. -/
def PureWalk (P : Program) (ops : Array Oper) (Q : Act → Prop) : List Oper → Act → Prop
  | [], a => Q a
  | o :: r, a => ∃ v, Yields P ops o v a ∧ PureWalk P ops Q r (a.put o.dst v)
theorem PureWalk.nil {Q : Act → Prop} {a : Act} (h : Q a) : PureWalk P ops Q [] a := h
theorem any_of_pure {Q : Exit → Act → World → Prop} {g : Nat} {last : Array Bool → Bool} (hns : Region.noSelect ops = true)
    (hQ : ∀ c a a' w, a'.defers = a.defers → Q (.panic c) a' w → Q (.panic c) a w) {R : Act → Prop} {w : World} (inv0 : List Nat → Array Bool → Prop) (hstep : ∀ s i r, inv0 (i :: r) s → i ∈ Region.ready md ops s → inv0 r (s.setIfInBounds i true))
    (hR : ∀ s a, inv0 [] s → last s = true → R a → wpAny P md ops Q g s a w) (r : List Nat) :
    ∀ (l : List Oper) (s : Array Bool) (a : Act), r.map (fun i => ops[i]?) = l.map some → inv0 r s → Region.orderB md ops last r s = true → PureWalk P ops R l a → wpAny P md ops Q (r.length + g) s a w := by
  induction r with
  | nil =>
    intro l s a hl hi hB h
    cases l with
    | nil => rw [List.length_nil, Nat.zero_add]; exact hR s a hi hB h
    | cons _ _ => simp at hl
  | cons i r ih =>
    intro l s a hl hinv hB h
    cases l with
    | nil => simp at hl
    | cons o l =>
      simp only [List.map_cons, List.cons.injEq] at hl
      simp only [Region.orderB, Bool.and_eq_true] at hB
      obtain ⟨v, hv, hn⟩ := h
      have hr : i ∈ Region.ready md ops s := by simpa using hB.1.1
      have e : (i :: r).length + g = (r.length + g) + 1 := by simp only [List.length_cons]; omega
      rw [e]
      refine wpAny_take hl.1 hns hB.1.2 hB.1.1 (fun c a w q => hQ c a _ w (by cases o.dst <;> rfl) q) hv ?_
      exact ih l _ _ hl.2 (hstep s i r hinv hr) hB.2 hn

/-- A tail that comes up one by one. -/
def Region.seqL (md : Region.Mode) (ops : Array Oper) : List Nat → Array Bool → Bool
  | [], s => (Region.ready md ops s).isEmpty
  | i :: r, s => decide (Region.ready md ops s = [i]) && Region.seqL md ops r (s.setIfInBounds i true)
theorem any_of_seqL {Q : Exit → Act → World → Prop} (r : List Nat) :
    ∀ (l : List Oper) (s : Array Bool) (a : Act) (w : World), r.map (fun i => ops[i]?) = l.map some → Region.seqL md ops r s = true → wpList P ops Q l a w → wpAny P md ops Q r.length s a w := by
  induction r with
  | nil =>
    intro l s a w hl hB h
    cases l with
    | nil => exact ⟨by simpa [Region.seqL] using hB, h⟩
    | cons _ _ => simp at hl
  | cons i r ih =>
    intro l s a w hl hB h
    cases l with
    | nil => simp at hl
    | cons o l =>
      simp only [List.map_cons, List.cons.injEq] at hl
      simp only [Region.seqL, Bool.and_eq_true, decide_eq_true_eq] at hB
      refine ⟨fun h1 => (by rw [hB.1] at h1; cases h1), fun j hj => ?_⟩
      rw [hB.1] at hj
      have hji : j = i := by simpa using hj
      rw [hji]
      have hw : wpOp P ops Q i (wpList P ops Q l) a w := by unfold wpOp; simp only [hl.1]; exact h
      exact wpOp_mono (fun a' w' h' => ih l _ a' w' hl.2 hB.2 h') hw
theorem seqL_ready {t0 : Nat} {ts : List Nat} {s : Array Bool} (h : Region.seqL md ops (t0 :: ts) s = true) : ∀ j ∈ Region.ready md ops s, j ∈ t0 :: ts := by
  intro j hj
  simp only [Region.seqL, Bool.and_eq_true, decide_eq_true_eq] at h
  rw [h.1] at hj
  simp at hj; simp [hj]

/-- Operations that can only yield a value. -/
def Op.valued : Op → Bool
  | .move _ | .assign _ | .binOp .. | .unOp .. | .convert .. | .fieldAddr .. | .field .. | .indexAddr .. | .index .. | .slice .. | .extract .. | .build .. | .sliceToArrayPointer .. => true
  | .call c => match c.callee with
    | .builtin .len | .builtin .cap => true
    | _ => false
  | _ => false
theorem valued_run {o : Oper} (h : o.op.valued = true) (ρ : Operand → Value) (w w' : World) (n : Next) (hr : (execOp ρ o).run P w = .ok n w') : ∃ v, n = .value v := by
  have key : ∀ (m : Sem Value), (do let x ← m; pure (Next.value x) : Sem Next).run P w = .ok n w' → ∃ v, n = .value v := by
    intro m hm
    rw [Sem.run_bind] at hm
    generalize m.run P w = r at hm
    cases r with
    | ok x w2 => simp only [Result.andThen_ok, Sem.run_pure, Result.ok.injEq] at hm; exact ⟨x, hm.1.symm⟩
    | halt x w2 => simp [Result.andThen] at hm
  obtain ⟨dst, op, type, pos, after, guard⟩ := o
  cases op
  case call c =>
    obtain ⟨callee, cargs, cats⟩ := c
    cases callee with
    | builtin b =>
      cases b <;> first
        | (simp [Op.valued] at h; done)
        | (simp only [execOp, resolve, Sem.run_bind, Sem.run_pure, Result.andThen_ok, invoke, builtin] at hr; exact key _ (by rw [Sem.run_bind]; exact hr))
    | _ => simp [Op.valued] at h
  all_goals first
    | exact key _ hr
    | (simp [Op.valued] at h; done)
    | (simp only [execOp, Sem.run_pure, Result.ok.injEq] at hr; exact ⟨_, hr.1.symm⟩)
theorem pureWalk_of_quiet {Q : Act → Prop} (l : List Oper) : ∀ a : Act, (l.all fun o => o.op.valued) = true → wpQuiet P ops (fun _ => True) Q l a → PureWalk P ops Q l a := by
  induction l with
  | nil => intro a _ h; exact h
  | cons o l ih =>
    intro a hv h
    simp only [List.all_cons, Bool.and_eq_true] at hv
    unfold wpQuiet at h
    cases hw : Region.wanted o (yielded ops a.tmps) with
    | false =>
      rw [if_neg (by rw [hw]; exact Bool.false_ne_true)] at h
      exact ⟨_, .inr ⟨hw, rfl⟩, ih _ (by simpa using hv.2) h⟩
    | true =>
      rw [if_pos hw] at h
      obtain ⟨v, h1, h2⟩ := h
      refine ⟨v, .inl ⟨hw, fun w => ?_⟩, ih _ (by simpa using hv.2) h2⟩
      have h3 := h1 w trivial
      unfold Oper.quietAt at h3
      cases hr : (execOp a.eval o).run P w with
      | ok n w' =>
        obtain ⟨u, rfl⟩ := valued_run hv.1 _ _ _ _ hr
        rw [hr] at h3
        simp only [Oper.quietUpon] at h3
        rw [h3.1, h3.2]
      | halt x w' => rw [hr] at h3; simp only [Oper.quietUpon] at h3

/-- All that the kernel is asked of a region: 'ps' first (they hang on no world), then the head 'hs', then the tail 't0 :: ts'. -/
def Region.mixB (md : Region.Mode) (ops : Array Oper) (ps hs : List Nat) (t0 : Nat) (ts : List Nat) : Bool :=
  (ps.filterMap fun i => ops[i]?).all (fun o => o.op.valued) && Region.noSelect ops && Region.sinkL md ops hs t0 && Region.linkB md ops (t0 :: ts) && hs.all (fun i => decide (i < ops.size) && !(t0 :: ts).contains i) && (t0 :: ts).all (fun i => !ps.contains i && decide (i < ops.size)) &&
  (List.range ops.size).all (fun j => ps.contains j || hs.contains j || (t0 :: ts).contains j) && decide (ps.length + (hs.length + (ts.length + 1)) = ops.size) &&
  Region.orderB md ops (Region.orderB md ops (Region.seqL md ops (t0 :: ts)) hs) ps (Array.replicate ops.size false)

/-- **THE REGION**: operations that hang on no world first, the head in a class of worlds, the tail one by one. -/
theorem wp_region_mix {id : Nat} {Q : Exit → Act → World → Prop} {a : Act} {w : World} {l : List Oper} (C : World → Prop) (ps hs : List Nat) (t0 : Nat) (ts : List Nat) (hm : P.follows .mixedOrders = true)
    (hB : Region.mixB .any l.toArray ps hs t0 ts = true) (hQ : ∀ c a a' w, a'.defers = a.defers → Q (.panic c) a' w → Q (.panic c) a w) (hC : C w.drew)
    (h : wpQuiet P l.toArray (fun _ => True) (wpQuiet P l.toArray C (fun a' => ∀ w', C w' → wpList P l.toArray Q ((t0 :: ts).filterMap fun i => l[i]?) a' w') (hs.filterMap fun i => l[i]?)) (ps.filterMap fun i => l[i]?) a) : (Code.region id l.toArray true).wp P Q a w := by
  simp only [Region.mixB, Bool.and_eq_true, decide_eq_true_eq] at hB
  obtain ⟨⟨⟨⟨⟨⟨⟨⟨hval, hns⟩, hsk⟩, hlk⟩, hhs⟩, hts⟩, hcv⟩, hlen⟩, hord⟩ := hB
  replace h := pureWalk_of_quiet _ _ (by simpa using hval) h
  have hh1 : ∀ i ∈ hs, i < l.toArray.size := fun i hi => by have := List.all_eq_true.1 hhs i hi; simp only [Bool.and_eq_true, decide_eq_true_eq] at this; exact this.1
  have hh2 : ∀ i ∈ hs, i ∉ t0 :: ts := fun i hi => by
    have := List.all_eq_true.1 hhs i hi
    simp only [Bool.and_eq_true, Bool.not_eq_true'] at this
    have h2 := this.2
    intro hmem
    rw [List.contains_iff_mem.2 hmem] at h2
    cases h2
  have ht1 : ∀ i ∈ t0 :: ts, i ∉ ps ∧ i < l.toArray.size := fun i hi => by
    have := List.all_eq_true.1 hts i hi
    simp only [Bool.and_eq_true, Bool.not_eq_true', decide_eq_true_eq] at this
    refine ⟨fun hmem => ?_, this.2⟩
    rw [List.contains_iff_mem.2 hmem] at this
    cases this.1
  have hsome : ∀ r : List Nat, (∀ i ∈ r, i < l.toArray.size) → r.map (fun i => l.toArray[i]?) = (r.filterMap fun i => l[i]?).map some := by
    intro r
    induction r with
    | nil => intro _; rfl
    | cons i r ih =>
      intro hr
      have hi : i < l.length := by simpa using hr i (by simp)
      rw [List.map_cons, ih (fun x hx => hr x (by simp [hx]))]
      have e : l[i]? = some l[i] := List.getElem?_eq_getElem hi
      simp [e]
  have hordlt : ∀ (last : Array Bool → Bool) (r : List Nat) (s : Array Bool), Region.orderB .any l.toArray last r s = true → ∀ i ∈ r, i < l.toArray.size := by
    intro last r
    induction r with
    | nil => intro _ _ i hi; cases hi
    | cons x r ih =>
      intro s hs i hi
      simp only [Region.orderB, Bool.and_eq_true] at hs
      rcases List.mem_cons.1 hi with rfl | hi
      · have hr : i ∈ Region.ready .any l.toArray s := by simpa using hs.1.1
        obtain ⟨_, o, ho, _⟩ := mem_ready.1 hr
        exact (Array.getElem?_eq_some_iff.1 ho).1
      · exact ih _ hs.2 i hi
  refine wp_region_any hm ?_
  let inv0 : List Nat → Array Bool → Prop := fun r s => s.size = l.toArray.size ∧ (∀ j oj, l.toArray[j]? = some oj → s.getD j false = true → ∀ e ∈ oj.after, Region.binds .any e = true → s.getD e.on false = true) ∧
    (∀ j, s.getD j true = false → j < l.toArray.size ∧ (j ∉ ps ∨ j ∈ r)) ∧ (∀ j, j < l.toArray.size → j ∉ ps → s.getD j true = false) ∧ (∀ i ∈ r, i ∈ ps)
  have hstep : ∀ s i r, inv0 (i :: r) s → i ∈ Region.ready .any l.toArray s → inv0 r (s.setIfInBounds i true) := by
    intro s i r inv hi
    obtain ⟨_, oi, hoi, hall⟩ := mem_ready.1 hi
    obtain ⟨i1, i2, i3, i4, i5⟩ := inv
    refine ⟨by simp [i1], fun j oj hj hl e he hb => ?_, fun j hj => ?_, fun j hj hp => ?_, fun x hx => i5 x (by simp [hx])⟩
    · by_cases hij : i = j
      · have e2 : oj = oi := Option.some.inj (hj.symm.trans (hij ▸ hoi))
        rw [e2] at he
        exact getD_set_true (hall e he hb)
      · rw [getD_set_ne false hij] at hl
        exact getD_set_true (i2 j oj hj hl e he hb)
    · have hne : i ≠ j := by
        intro e
        rw [← e] at hj
        have hl : i < s.size := by rw [i1]; exact (Array.getElem?_eq_some_iff.1 hoi).1
        simp [hl] at hj
      rw [getD_set_ne true hne] at hj
      have h1 := i3 j hj
      refine ⟨h1.1, h1.2.imp (fun q => q) fun hm => ?_⟩
      rcases List.mem_cons.1 hm with h | h
      · exact absurd h.symm hne
      · exact h
    · have hne : i ≠ j := fun e => hp (e ▸ i5 i (by simp))
      rw [getD_set_ne true hne]; exact i4 j hj hp
  have final : ∀ s a, inv0 [] s → Region.orderB .any l.toArray (Region.seqL .any l.toArray (t0 :: ts)) hs s = true →
      wpQuiet P l.toArray C (fun a' => ∀ w', C w' → wpList P l.toArray Q ((t0 :: ts).filterMap fun i => l[i]?) a' w') (hs.filterMap fun i => l[i]?) a → wpAny P .any l.toArray Q (hs.length + (ts.length + 1)) s a w.drew := by
    intro s a inv hB hq
    obtain ⟨i1, i2, i3, i4, _⟩ := inv
    have linv : ListInv .any l.toArray hs (t0 :: ts) s := by
      refine ⟨i1, i2, fun t ht => i4 t (ht1 t ht).2 (ht1 t ht).1, fun j hj hu => ?_⟩
      have h1 := List.all_eq_true.1 hcv j (List.mem_range.2 hj)
      simp only [Bool.or_eq_true, List.contains_iff_mem] at h1
      rcases h1 with (h1 | h1) | h1
      · rcases (i3 j hu).2 with h2 | h2
        · exact absurd h1 h2
        · cases h2
      · exact .inl h1
      · exact .inr h1
    have H := headC_order (md := .any) (last := Region.seqL .any l.toArray (t0 :: ts)) hns hsk hlk hh1 hh2 (fun s h => seqL_ready h) hs _ s a (hsome hs hh1) (fun i hi => hi) linv hB hq
    exact any_of_headC (g := ts.length + 1) (fun s' a' w' hw' hL => any_of_seqL (t0 :: ts) _ s' a' w' (hsome _ fun i hi => (ht1 i hi).2) hL.1 (hL.2 w' hw')) _ s a w.drew hC H
  have R := any_of_pure (g := hs.length + (ts.length + 1)) (md := .any) (last := fun s => Region.orderB .any l.toArray (Region.seqL .any l.toArray (t0 :: ts)) hs s) hns hQ (R := _) (w := w.drew)
    inv0 hstep final ps _ _ a (hsome ps (hordlt _ ps _ hord)) ⟨by simp, fun j oj _ hl => (by rw [getD_replicate_false] at hl; cases hl), fun j hj => ⟨?_, ?_⟩, fun j hj _ => getD_in (by simpa using hj) (getD_replicate_false _ _), fun i hi => hi⟩ hord h
  · rw [hlen] at R; exact R
  · rcases Nat.lt_or_ge j l.toArray.size with h1 | h1
    · exact h1
    · have h2 : ¬ j < l.length := by simpa using h1
      simp [Array.getD, h2] at hj
  · by_cases hp : j ∈ ps
    · exact .inr hp
    · exact .inl hp

/-- One operation of such a head: a load of a whole array or struct. -/
theorem wpQuiet_load_blk {Q : Act → Prop} {rest : List Oper} {o : Oper} {a : Act} {g : Nat} {t : TypeId} {cs : Array Value} (hb : ∀ w, C w → Blk w g t cs) (hgd : o.guard = none) (ty : TypeId) (x : Operand) (ho : o.op = .load ty x)
    (hx : a.eval x = .pointer (some ⟨g, 0, none⟩)) (d : TypeDesc)
    (hu : P.underlying ty = some d) (hd : (match d with | .struct _ | .array _ _ => true | _ => false) = true) {n : Nat} (hi : (P.info? ty).map (·.size) = some n) (hn : cs.size = n)
    (h : wpQuiet P ops C Q rest (a.put o.dst (.agg cs))) : wpQuiet P ops C Q (o :: rest) a := by
  refine wpQuiet_step fun K hK => ?_
  rw [if_pos (by simp [Region.wanted, hgd])]
  refine ⟨_, fun w hw => ?_, hK _ h⟩
  unfold Oper.quietAt execOp
  simp only [ho, hx, Instr.loadAt, Instr.sureAddr, Sem.run_bind, Sem.run_pure, Result.andThen_ok, run_loadVar_row w g t ty cs (0, 0) d (hb w hw) hu hd (hn ▸ hi)]
  exact ⟨rfl, rfl⟩
/-- A call of a Go function whose contract holds in the whole class. -/
theorem wpQuiet_call {Q : Act → Prop} {rest : List Oper} {o : Oper} {a : Act} {f : FuncId} (hf : ∀ args w, (callFunc f args).run P w = .ok (.enter f args) w) (hgd : o.guard = none) (xs : List Operand) (ats : Array TypeId)
    (ho : o.op = .call { callee := .value (.func f), args := xs.toArray, argTypes := ats }) (vals : List Value) (hx : xs.map a.eval = vals) (v : Value)
    (hc : ∀ w, C w → Calls P f vals.toArray w fun e w' => e = .returned v ∧ C w') (h : wpQuiet P ops C Q rest (a.put o.dst v)) : wpQuiet P ops C Q (o :: rest) a := by
  refine wpQuiet_step fun K hK => ?_
  rw [if_pos (by simp [Region.wanted, hgd])]
  refine ⟨v, fun w hw => ?_, hK _ h⟩
  obtain ⟨dst, op, type, pos, after, guard⟩ := o
  simp only at ho
  subst ho
  unfold Oper.quietAt
  rw [execOp_call_go, hf]
  have e : #[] ++ xs.toArray.map a.eval ++ #[] = vals.toArray := by rw [← hx]; simp
  rw [e]
  exact ⟨rfl, hc w hw⟩
end
end Go

/- What the functions do that the statements share: bytes compared, copied, lent, kept. Plain facts. No condition. -/
namespace Go
open Go.RowKit
/-- The string that bytes are. -/
def str (l : List UInt8) : ByteArray := ⟨l.toArray⟩
theorem str_inj {l l' : List UInt8} (h : str l = str l') : l = l' := by
  unfold str at h
  injection h with h
  simpa using h
theorem str_eq (l l' : List UInt8) : (str l = str l') = (l = l') := propext ⟨str_inj, fun h => by rw [h]⟩
theorem str_beq (l l' : List UInt8) : ((str l).toList == (str l').toList) = decide (l = l') := by
  rw [ByteArray.toList_eq, ByteArray.toList_eq]
  by_cases h : l = l'
  · subst h; simp
  · rw [decide_eq_false h]; simpa [str] using h
theorem strOfNums_iu8 (l : List UInt8) : strOfNums (l.map iu8) = str l := by
  unfold strOfNums str
  rw [List.map_map]
  congr 2
  refine (List.map_congr_left fun b _ => ?_).trans (List.map_id l)
  simp [iu8]
theorem run_convert_str {P : Program} {w : World} {A : Option Addr} {l : List UInt8} (src dst e : TypeId) (hs : P.underlying src = some (.slice e)) (he : P.underlying e = some (.int .u8)) (hd : P.underlying dst = some .string)
    (n c : Nat) (hn : n = l.length) (h : Bytes w A l) : (convert src dst (.slice A n c)).run P w = .ok (.string (str l)) w := by
  subst hn
  cases hl : l with
  | nil =>
    cases A with
    | none => exact run_convert_bytes_nil w src e hs he _ _ dst hd
    | some a =>
      rw [run_convert_bytes_string w src dst e _ _ c hs he hd]
      have := run_bytesToString (P := P) w a 0 c [] (by rfl)
      exact this
  | cons x t =>
    have hp : 0 < l.length := by rw [hl]; simp
    obtain ⟨b, off, rfl, _, hc⟩ := h.at_ hp
    rw [← hl]
    have := run_convert_bytes_arg (P := P) w src e hs he b off l.length c (l.map iu8) (by simp) (fun i hi => by rw [hc i hi]; simp [hi]) dst hd
    rw [this, strOfNums_iu8]
theorem wpList_convert_str {P : Program} {w : World} {Q : Exit → Act → World → Prop} {ops : Array Oper} {rest : List Oper} {o : Oper} {a : Act} (hgd : o.guard = none) (src dst e : TypeId) (x : Operand) (ho : o.op = .convert src dst x)
    (hs : P.underlying src = some (.slice e)) (he : P.underlying e = some (.int .u8)) (hd : P.underlying dst = some .string)
    (A : Option Addr) (n c : Nat) (l : List UInt8) (hx : a.eval x = .slice A n c) (hn : n = l.length) (h : Bytes w A l) (hk : wpList P ops Q rest (a.put o.dst (.string (str l))) w) : wpList P ops Q (o :: rest) a w := by
  refine wpList_run (.string (str l)) hgd ?_ hk
  unfold execOp
  simp only [ho, hx, Sem.run_bind, run_convert_str src dst e hs he hd n c hn h, Result.andThen_ok, Sem.run_pure]
theorem wpList_make_bytes {P : Program} (w : World) {ops : Array Oper} {rest : List Oper} {o : Oper} {a : Act} {Q : Exit → Act → World → Prop}
    (hg : o.guard = none) (l c : Operand) (t : TypeId) (hop : o.op = Op.makeSlice t l c) (e : TypeId) (h1 : P.underlying t = some (.slice e)) (h2 : (P.info? e).map (fun i => (i.zero, i.size, i.bytes)) = some (some (.int .u8 0), 1, 1))
    (kl kc : IntKind) (L C : Int) (n m : Nat) (hl : a.eval l = .int kl L) (hc : a.eval c = .int kc C) (hL : L = (n : Int)) (hC : C = (m : Int)) (hnm : n ≤ m) (hm : m ≤ 140737488400000)
    (hK : ∀ w', Blk w' w.heap.size e ((List.replicate m 0).map u8v).toArray → Below w.heap.size w w' → w'.heap.size = w.heap.size + 1 → wpList P ops Q rest (a.put o.dst (.slice (some ⟨w.heap.size, 0, none⟩) n m)) w') :
    wpList P ops Q (o :: rest) a w := by
  obtain ⟨i, hi, hzz⟩ := Option.map_eq_some_iff.1 h2
  simp only [Prod.mk.injEq] at hzz
  obtain ⟨hz, hs, hb⟩ := hzz
  subst hL
  subst hC
  have hr := run_make (P := P) w t e i _ h1 hi hz kl kc n m (by omega) (by omega) (by rw [hb]; omega) (by omega)
  have e2 : madeCells (Value.int .u8 0).cells (m * i.size) = ((List.replicate m 0).map u8v).toArray := by
    rw [hs, Nat.mul_one]
    unfold madeCells
    apply Array.ext'
    simp [Value.cells, u8v, List.eq_replicate_iff]
    intro b x
    simp [Nat.mod_one, iu8]
  rw [Int.toNat_natCast, Int.toNat_natCast, e2] at hr
  refine wpList_plain hg fun K hK' => ?_
  unfold Oper.wp
  simp only [execOp, hop, hl, hc, hr, Sem.run_bind, Result.andThen_ok, Sem.run_pure]
  exact hK' _ _ (hK _ (Blk.new w e _) ((Below.refl _ _).alloc (Nat.le_refl _) _) (by simp))
theorem setRow_upd (w : World) (g : Nat) (cs : Array Value) : Upd g w (w.setRow g cs) := Upd.setRow w g cs
/-- copy(d, s), d in an own block of bytes from its head on. -/
theorem wpList_copy_bytes {P : Program} {w : World} {ops : Array Oper} {rest : List Oper} {o : Oper} {a : Act} {Q : Exit → Act → World → Prop} (hgd : o.guard = none) (d s : Operand) (dT sT : TypeId)
    (ho : o.op = .call { callee := .builtin .copy, args := #[d, s], argTypes := #[dT, sT] }) (elem : TypeId) (hu : P.underlying dT = some (.slice elem)) (hsz : (P.info? elem).map (·.size) = some 1)
    (g dLen dCap : Nat) (A : Option Addr) (sLen sCap : Nat) (hd : a.eval d = .slice (some ⟨g, 0, none⟩) dLen dCap) (hs : a.eval s = .slice A sLen sCap)
    (cur l : List UInt8) (t : TypeId) (hg : Blk w g t (cur.map u8v).toArray) (hn : l.length = sLen) (hb : Bytes w A l) (hfit : l.length ≤ cur.length) (hfit2 : l.length ≤ dLen)
    (h : ∀ w', Blk w' g t ((l ++ cur.drop l.length).map u8v).toArray → Upd g w w' → wpList P ops Q rest (a.put o.dst (goInt l.length)) w') : wpList P ops Q (o :: rest) a w := by
  by_cases h0 : l.length = 0
  · obtain rfl : l = [] := List.eq_nil_of_length_eq_zero h0
    simp at hn
    subst hn
    refine wpList_copy_nothing hgd d s dT sT ho elem hu hsz _ A dLen dCap 0 sCap hd hs (by simp) ?_
    exact h w (by simpa using hg) ⟨rfl, rfl, rfl, rfl, fun _ _ => rfl⟩
  · obtain ⟨b, off, rfl, _, hc⟩ := hb.at_ (by omega)
    have := wpList_copy_own (Q := Q) (rest := rest) (ops := ops) (w := w) hgd d s dT sT ho elem hu hsz g 0 dLen dCap ⟨b, off, none⟩ sLen sCap hd hs (cur.map u8v).toArray t hg (l.map u8v) (by rw [List.length_map, hn]; exact (Nat.min_eq_left (by omega)).symm)
      (fun j v hv => by
        have hj : j < l.length := by
          rcases Nat.lt_or_ge j l.length with h1 | h1
          · exact h1
          · simp [List.getElem?_eq_none h1] at hv
        have h2 := hc j hj
        simp [hj] at hv
        rw [Addr.add_lit, h2, ← hv]; simp [u8v, hj]) (by simpa using hfit) (u8v_one l)
    refine this ?_
    have e1 : ((((cur.map u8v).toArray.toList.take 0) ++ (l.map u8v ++ (cur.map u8v).toArray.toList.drop (0 + (l.map u8v).length))).toArray) = ((l ++ cur.drop l.length).map u8v).toArray := by simp
    rw [e1]
    have e2 : ((l.map u8v).length : Int) = (l.length : Int) := by simp
    rw [e2]
    exact h _ (hg.setRow _) (Upd.setRow _ _ _)
/-- A guarded operation that is wanted. -/
theorem wpList_want {P : Program} {w : World} {Q : Exit → Act → World → Prop} {ops : Array Oper} {rest : List Oper} {dst : Option Tmp} {op : Op} {ty : TypeId} {pos : String} {af : Array Edge} {g : Option (Nat × Bool)} {a : Act}
    (hw : Region.wanted ⟨dst, op, ty, pos, af, g⟩ (yielded ops a.tmps) = true) (h : wpList P ops Q (⟨dst, op, ty, pos, af, none⟩ :: rest) a w) : wpList P ops Q (⟨dst, op, ty, pos, af, g⟩ :: rest) a w := by
  unfold wpList at h ⊢
  rw [if_pos hw]
  rw [if_pos (by simp [Region.wanted])] at h
  exact h
/-- []byte("..") of a constant string. -/
theorem wpList_bytes_const {P : Program} {w : World} {Q : Exit → Act → World → Prop} {ops : Array Oper} {rest : List Oper} {o : Oper} {a : Act} (hgd : o.guard = none) (t e : TypeId) (x : Operand) (ho : o.op = .convert t t x)
    (ht : P.underlying t = some (.slice e)) (he : P.underlying e = some (.int .u8)) (l : List UInt8) (C : Array Value) (hC : C = (l.map u8v).toArray) (n : Nat) (hx : a.eval x = .slice (some ⟨w.heap.size, 0, none⟩) n n)
    (h : ∀ w', Bytes w' (some ⟨w.heap.size, 0, none⟩) l → Below w.heap.size w w' → w'.heap.size = w.heap.size + 1 → wpList P ops Q rest (a.put o.dst (.slice (some ⟨w.heap.size, 0, none⟩) n n)) w') : wpList P ops Q (o :: rest) a (w.alloc (.cells C e)) := by
  subst hC
  refine wpList_plain hgd fun K hK => ?_
  unfold Oper.wp execOp
  have hr := Lib.run_convert_bytes_const (P := P) w t e (l.map u8v).toArray n n ht he
  simp only [ho, hx, Sem.run_bind, hr, Result.andThen_ok, Sem.run_pure]
  refine hK _ _ (h _ (fun _ => ⟨w.heap.size, 0, rfl, fun j v hv => ?_⟩) ((Below.refl _ _).alloc (Nat.le_refl _) _) (by simp))
  have hh : (w.alloc (.cells (l.map u8v).toArray e ((l.map u8v).toArray.size, (l.map u8v).toArray.size + 1))).heap[w.heap.size]? = some (.cells (l.map u8v).toArray e ((l.map u8v).toArray.size, (l.map u8v).toArray.size + 1)) := heap_alloc_last w _
  rw [Nat.zero_add, cell_of_row _ _ _ _ _ _ hh]
  simpa using hv
/-- A block of bytes reads. -/
theorem Blk.bytes {w : World} {g : Nat} {t : TypeId} {l : List UInt8} (h : Blk w g t (l.map u8v).toArray) : Bytes w (some ⟨g, 0, none⟩) l := fun _ => ⟨g, 0, rfl, fun j u hu => by rw [h.cell]; simpa using hu⟩
theorem wpQuiet_convert_str {P : Program} {ops : Array Oper} {C : World → Prop} {Q : Act → Prop} {rest : List Oper} {o : Oper} {a : Act} (hgd : o.guard = none) (src dst e : TypeId) (x : Operand) (ho : o.op = .convert src dst x)
    (hs : P.underlying src = some (.slice e)) (he : P.underlying e = some (.int .u8)) (hd : P.underlying dst = some .string)
    (A : Option Addr) (n c : Nat) (l : List UInt8) (hx : a.eval x = .slice A n c) (hn : n = l.length) (hb : ∀ w, C w → Bytes w A l) (h : wpQuiet P ops C Q rest (a.put o.dst (.string (str l)))) : wpQuiet P ops C Q (o :: rest) a := by
  refine wpQuiet_step fun K hK => ?_
  rw [if_pos (by simp [Region.wanted, hgd])]
  refine ⟨_, fun w hw => ?_, hK _ h⟩
  unfold Oper.quietAt execOp
  simp only [ho, hx, Sem.run_bind, run_convert_str src dst e hs he hd n c hn (hb w hw), Result.andThen_ok, Sem.run_pure]
  exact ⟨rfl, rfl⟩
namespace Proofs.YtekdcjaljjlemaaDoor
theorem sameBytes_any (A B : Option Addr) (n m c d : Nat) (l l' : List UInt8) (hn : n = l.length) (hm : m = l'.length) (w : World) (h : Bytes w A l) (h' : Bytes w B l') :
    Calls Tryd.prog 12 #[.slice A n c, .slice B m d] w fun e w' => e = .returned (.bool (decide (l = l'))) ∧ w' = w := by
  subst hn hm
  go_enter Tryd.func12, Tryd.ntmps12
  go_wp2_with (first
    | (show wpList _ _ _ ((⟨some 6, _, _, _, _, _⟩ : Oper) :: _) _ _; refine wpList_convert_str (o := ⟨some 6, _, _, _, _, _⟩) (by rfl) 27 9 5 _ (by rfl) Tryd.underlying27 Tryd.underlying5 Tryd.underlying9 A l.length c l (by rfl) rfl h ?_)
    | (show wpList _ _ _ ((⟨some 8, _, _, _, _, _⟩ : Oper) :: _) _ _; refine wpList_convert_str (o := ⟨some 8, _, _, _, _, _⟩) (by rfl) 27 9 5 _ (by rfl) Tryd.underlying27 Tryd.underlying5 Tryd.underlying9 B l'.length d l' (by rfl) rfl h' ?_))
  refine bodyPost_ret (results_tmp rfl _ _ _) rfl ⟨?_, rfl⟩
  simp [str_beq]
/-- What stands behind a list that is lent: three marks. -/
def mark1 (p : Nat) : UInt8 := UInt8.ofNat ((160 + p % 90) % 256)
def marks (n : Nat) : List UInt8 := [mark1 n, mark1 (n + 1), mark1 (n + 2)]
theorem lent_set (l : List UInt8) (n i : Nat) (h : i < 3) :
    ((l ++ ((marks n).take i ++ List.replicate (3 - i) 0)).map u8v).toArray.setIfInBounds (l.length + i) (.int .u8 (iu8 (mark1 (n + i)))) = ((l ++ ((marks n).take (i + 1) ++ List.replicate (3 - (i + 1)) 0)).map u8v).toArray := by
  apply Array.ext'
  simp only [List.setIfInBounds_toArray, List.map_append]
  have e : l.length + i = (l.map u8v).length + i := by simp
  rw [e, List.set_append_right _ _ (by omega), Nat.add_sub_cancel_left]
  congr 1
  have : i = 0 ∨ i = 1 ∨ i = 2 := by omega
  rcases this with rfl | rfl | rfl <;> simp [marks, List.replicate, u8v]
theorem size1 : (Tryd.prog.info? 5).map (·.size) = some 1 := by kernel_rfl
/-- Ahead of each mark. -/
def LentRel (w : World) (l : List UInt8) (v : Value) (wr : World) : Prop :=
  ∃ i : Nat, i ≤ 3 ∧ v = .int .i64 ((l.length + i : Nat) : Int) ∧ Blk wr w.heap.size 5 ((l ++ ((marks l.length).take i ++ List.replicate (3 - i) 0)).map u8v).toArray ∧ Below w.heap.size w wr
set_option maxHeartbeats 400000 in
theorem lentBytes_any (A : Option Addr) (n c : Nat) (l : List UInt8) (hn : n = l.length) (hl : l.length ≤ 140737488351300) (w : World) (h : Bytes w A l) :
    Calls Tryd.prog 7 #[.slice A n c] w fun e w' => e = .returned (.slice (some ⟨w.heap.size, 0, none⟩) l.length (l.length + 3)) ∧ Blk w' w.heap.size 5 ((l ++ marks l.length).map u8v).toArray ∧ Below w.heap.size w w' := by
  subst hn
  go_enter Tryd.func7, Tryd.ntmps7
  go_wp2_with (first
    | (show wpList _ _ _ ((⟨some 8, _, _, _, _, _⟩ : Oper) :: _) _ _; refine wpList_make_bytes (o := ⟨some 8, _, _, _, _, _⟩) _ (by rfl) _ _ _ (by rfl) _ Tryd.underlying27 u8info .i64 .i64 _ _ (l.length + 3) (l.length + 3) (by rfl) (by rfl) (by omega) (by omega) (Nat.le_refl _) (by omega) ?_; intro w1 h1 hb1 _; have hb := h.below hb1)
    | (show wpList _ _ _ ((⟨some 11, _, _, _, _, _⟩ : Oper) :: _) _ _; refine wpList_copy_bytes (o := ⟨some 11, _, _, _, _, _⟩) (by rfl) _ _ _ _ (by rfl) 5 Tryd.underlying27 size1 w.heap.size (l.length + 3) (l.length + 3) A l.length c (by rfl) (by rfl) (List.replicate (l.length + 3) 0) l _ h1 rfl hb (by simp) (by omega) ?_; intro w2 h2 hu2; have hb2 := hb1.upd hu2 (Nat.le_refl _); clear h1 hb1 hu2 hb)
    | fail)
  have h3 : Blk w2 w.heap.size 5 ((l ++ ((marks l.length).take 0 ++ List.replicate (3 - 0) 0)).map u8v).toArray := by
    refine h2.sub ?_
    simp
  clear h2
  go_loopw [4] (fun v wr => LentRel w l v wr) (fun v _ => l.length + 3 - (intOf v).toNat)
  case atStart => exact ⟨0, by omega, rfl, h3, hb2⟩
  case round =>
    clear h3 hb2
    obtain ⟨i, hi, rfl, hw, hbw⟩ := hrel
    obtain ⟨p, hp⟩ : ∃ p, p = l.length + i := ⟨_, rfl⟩
    rw [← hp]
    have HP := Lib.hid hp
    by_cases h3 : i < 3
    · have d0 : ∃ u, wr.cell? ⟨w.heap.size, p, none⟩ = some u := by
        rw [hw.cell]
        exact ⟨_, Array.getElem?_eq_getElem (by simp [marks]; omega)⟩
      obtain ⟨u, d0⟩ := d0
      have f0 := hw.frozen p
      have eb : 160 + (p : Int) % 90 = iu8 (mark1 p) := by unfold mark1; rw [iu8_ofNat _ (by omega)]; omega
      have hplt : p < l.length + 3 := by omega
      clear hp
      have ho := hw.set_ p (.int .u8 (iu8 (mark1 p)))
      replace ho := ho.sub (show _ = ((l ++ ((marks l.length).take (i + 1) ++ List.replicate (3 - (i + 1)) 0)).map u8v).toArray by rw [HP.out]; exact lent_set l l.length i h3)
      have HO := Lib.hid ho
      clear ho
      go_wp2
      go_roundw
      case rel => exact ⟨i + 1, by omega, by have := HP.out; go_num, HO.out, hbw.set_ (Nat.le_refl _) _⟩
      case measure => simp [intOf]; omega
    · obtain rfl : i = 3 := by omega
      have hp3 : p = l.length + 3 := hp
      subst hp3
      have HW := Lib.hid hw
      clear hw HP hp
      go_wp2
      go_ret
      exact ⟨rfl, HW.out.sub (by simp [marks]), hbw⟩
set_option maxHeartbeats 400000 in
theorem keptBytes_any (g d n c m : Nat) (B : Option Addr) (l : List UInt8) (hn : n = l.length) (hc : c = l.length + 3) (hm : m = l.length) (hl : l.length ≤ 140737488351300) (w : World) (h : Blk w g 5 ((l ++ marks l.length).map u8v).toArray) (hb : Bytes w B l) :
    Calls Tryd.prog 15 #[.slice (some ⟨g, 0, none⟩) n c, .slice B m d] w fun e w' => e = .returned (.bool true) ∧ Below w.heap.size w w' := by
  subst hn hc hm
  go_enter Tryd.func15, Tryd.ntmps15
  go_wp2
  refine wp_region_mix (fun w' => w' = w.drew) [0, 1, 2, 3, 4, 5, 6, 7, 8, 9, 10, 12, 13, 14] [] 11 [15, 16, 17, 18] (by kernel_rfl) (by kernel_rfl) (fun c a a' w h q => ⟨h ▸ q.1, q.2⟩) rfl ?_
  dsimp only [List.filterMap, List.getElem?_cons_zero, List.getElem?_cons_succ]
  repeat (go_big_quiet_step (fail))
  refine wpQuiet_nil ?_
  refine wpQuiet_nil ?_
  rintro w1 rfl
  go_wp2_with fail
  refine (lentBytes_any B l.length d l rfl hl w.drew (Bytes.below hb (Below.refl _ _).drew)).mono ?_
  rintro e w2 ⟨rfl, h2, hb2⟩
  have hb3 : Below w.heap.size w w2 := (Below.refl _ _).drew.trans hb2
  have h3 : Blk w2 g 5 ((l ++ marks l.length).map u8v).toArray := h.below hb3 h.lt
  go_wp2_with fail
  refine (sameBytes_any (some ⟨g, 0, none⟩) (some ⟨w.drew.heap.size, 0, none⟩) (l.length + 3) (l.length + 3) (l.length + 3) (l.length + 3) (l ++ marks l.length) (l ++ marks l.length) (by simp [marks]) (by simp [marks]) w2 h3.bytes h2.bytes).mono ?_
  rintro e w3 ⟨rfl, rfl⟩
  clear h2 h3 h
  go_wp2
  go_ret
  exact ⟨by simp, hb3⟩
end Proofs.YtekdcjaljjlemaaDoor
end Go

/- Bytes copied. Condition: the list can be read. -/
namespace Go
open Go.RowKit
namespace Proofs.YtekdcjaljjlemaaDoor
theorem copyBytes_any (A : Option Addr) (n c : Nat) (l : List UInt8) (hn : n = l.length) (hl : l.length ≤ 140737488351300) (w : World) (h : Bytes w A l) :
    Calls Tryd.prog 25 #[.slice A n c] w fun e w' => ∃ v sp, e = .returned v ∧ OwnB 5 w' w.heap.size v l sp ∧ Below w.heap.size w w' := by
  subst hn
  have hb1 : Bytes (w.alloc (.cells #[] 5)) A l := h.below ((Below.refl _ _).alloc (Nat.le_refl _) _)
  have ho0 : OwnB 5 (w.alloc (.cells #[] 5)) w.heap.size (.slice (some ⟨w.heap.size, 0, none⟩) 0 0) [] [] := by
    have := OwnsC.lit (e := 5) (size := 1) (base := w.heap.size) w #[] 0 (by simp) (by simp) (by simp)
    unfold OwnB; simpa using this
  go_enter Tryd.func25, Tryd.ntmps25
  go_wp2_with (show wpList _ _ _ ((⟨some 5, _, _, _, _, _⟩ : Oper) :: _) _ _; refine wpList_append_bytes (o := ⟨some 5, _, _, _, _, _⟩) (by rfl) _ _ _ (by rfl) w.heap.size _ Tryd.underlying27 u8info (.slice (some ⟨w.heap.size, 0, none⟩) 0 0) [] [] (by rfl) ho0 A c l (by rfl) hb1 (by simp; omega) (by simp) ?_; intro v1 w1 sp1 ho1 hg1 _ _; have hbz := ((Below.refl w.heap.size w).alloc (Nat.le_refl _) (.cells #[] 5)).grown hg1 (by simp) (fun k hk => by have := (OwnsC.lt ho0 k hk).1; omega); clear hb1 ho0 hg1)
  go_ret
  exact ⟨_, sp1, rfl, by simpa using ho1, hbz⟩
end Proofs.YtekdcjaljjlemaaDoor
end Go

/- What the kit writes over: every byte of a list, with what stands behind it. No condition but that the list is an own one, or none. -/
namespace Go.Proofs.YtekdcjaljjlemaaDoor
open Go.RowKit
def over (l : List UInt8) : List UInt8 := l.map (· ^^^ 90)
theorem over_length (l : List UInt8) : (over l).length = l.length := by simp [over]
theorem over_over (l : List UInt8) : over (over l) = l := by
  unfold over; rw [List.map_map]
  have : ((fun x : UInt8 => x ^^^ 90) ∘ fun x => x ^^^ 90) = id := by funext x; simp [Function.comp, UInt8.xor_assoc]
  rw [this, List.map_id]
def overTo (l : List UInt8) (i : Nat) : List UInt8 := over (l.take i) ++ l.drop i
theorem overTo_length (l : List UInt8) (i : Nat) : (overTo l i).length = l.length := by unfold overTo; rw [List.length_append, over_length, ← List.length_append, List.take_append_drop]
theorem overTo_at (l : List UInt8) (i : Nat) (h : i < l.length) : (overTo l i)[i]? = some l[i] := by
  unfold overTo
  have h1 : (over (l.take i)).length = i := by rw [over_length, List.length_take]; omega
  rw [List.getElem?_append_right (by omega), h1, Nat.sub_self, List.getElem?_drop, Nat.add_zero, List.getElem?_eq_getElem h]
theorem overTo_set (l : List UInt8) (i : Nat) (h : i < l.length) : (overTo l i).set i (l[i] ^^^ 90) = overTo l (i + 1) := by
  unfold overTo
  have h1 : (over (l.take i)).length = i := by rw [over_length, List.length_take]; omega
  rw [List.set_append_right _ _ (by omega), h1, Nat.sub_self, List.drop_eq_getElem_cons h, List.set_cons_zero, List.take_succ_eq_append_getElem h]
  unfold over; rw [List.map_append]; simp
/-- Ahead of each byte. -/
def OverRel (w : World) (g : Nat) (t : TypeId) (l : List UInt8) (v : Value) (wr : World) : Prop :=
  ∃ i : Nat, i ≤ l.length ∧ v = .int .i64 (i : Int) ∧ Blk wr g t ((overTo l i).map u8v).toArray ∧ Upd g w wr
set_option maxHeartbeats 400000 in
theorem over_any (g n c : Nat) (l : List UInt8) (hn : n ≤ c) (hl : c = l.length) (hc : c ≤ 140737488351300) (w : World) (t : TypeId) (hg : Blk w g t (l.map u8v).toArray) :
    Calls Tryd.prog 32 #[.slice (some ⟨g, 0, none⟩) n c] w fun e w' => e = .returned (.tuple #[]) ∧ Blk w' g t ((over l).map u8v).toArray ∧ Upd g w w' := by
  subst hl
  go_enter Tryd.func32, Tryd.ntmps32
  go_wp2
  go_loopw [3] (fun v wr => OverRel w g t l v wr) (fun v _ => l.length - (intOf v).toNat)
  case atStart => exact ⟨0, by omega, rfl, by simpa [overTo, over] using hg, Upd.refl _ _⟩
  case round =>
    clear hg
    obtain ⟨i, hi, rfl, hw, hu⟩ := hrel
    by_cases h3 : i < l.length
    · have d0 : wr.cell? ⟨g, i, none⟩ = some (.int .u8 (iu8 l[i])) := by rw [hw.cell, List.getElem?_toArray, List.getElem?_map, overTo_at l i h3]; rfl
      have f0 := hw.frozen i
      have hx : bits BinOp.xor .u8 (iu8 l[i]) 90 = iu8 (l[i] ^^^ 90) := u8_xor_w _ 90
      have ho := hw.set_ i (.int .u8 (iu8 (l[i] ^^^ 90)))
      replace ho := ho.sub (show _ = ((overTo l (i + 1)).map u8v).toArray by
        rw [← overTo_set l i h3]
        apply Array.ext'
        simp only [List.setIfInBounds_toArray]
        rw [List.map_set]; rfl)
      have HO := Lib.hid ho
      have HU := Lib.hid (hu.set i (.int .u8 (iu8 (l[i] ^^^ 90))))
      clear ho hu hw
      go_wp2
      go_roundw
      case rel => exact ⟨i + 1, by omega, by go_num, HO.out, HU.out⟩
      case measure => simp [intOf]; omega
    · obtain rfl : i = l.length := by omega
      go_wp2
      refine bodyPost_end (v := .tuple #[]) (by simp [results]) rfl ⟨rfl, hw.sub (by simp [overTo]), hu⟩
theorem over_nil (w : World) : Calls Tryd.prog 32 #[.slice none 0 0] w fun e w' => e = .returned (.tuple #[]) ∧ w' = w := by
  go_enter Tryd.func32, Tryd.ntmps32
  go_wp2
  go_loopw [3] (fun v wr => v = .int .i64 0 ∧ wr = w) (fun _ _ => 0)
  case atStart => exact ⟨rfl, rfl⟩
  case round =>
    obtain ⟨rfl, rfl⟩ := hrel
    go_wp2
    refine bodyPost_end (v := .tuple #[]) (by simp [results]) rfl ⟨rfl, rfl⟩
end Go.Proofs.YtekdcjaljjlemaaDoor

/- make([]T, n): the elements' noughts. Plain facts over any program. Condition: n is at most 2^47. -/
namespace Go
open Go.RowKit
/-- make([]T, n): the elements' noughts. -/
theorem wpList_make_zero {P : Program} (w : World) {ops : Array Oper} {rest : List Oper} {o : Oper} {a : Act} {Q : Exit → Act → World → Prop}
    (hg : o.guard = none) (l c : Operand) (t : TypeId) (hop : o.op = Op.makeSlice t l c) (e : TypeId) (z : Value) (size bytes : Nat) (h1 : P.underlying t = some (.slice e)) (h2 : (P.info? e).map (fun i => (i.zero, i.size, i.bytes)) = some (some z, size, bytes))
    (kl kc : IntKind) (n m : Nat) (hl : a.eval l = .int kl n) (hc : a.eval c = .int kc m) (hnm : n ≤ m) (hm : m ≤ 140737488400000) (hm2 : bytes * m ≤ 140737488400000) (cs : Array Value) (hcs : madeCells z.cells (m * size) = cs)
    (hK : ∀ w', Blk w' w.heap.size e cs → Below w.heap.size w w' → w'.heap.size = w.heap.size + 1 → wpList P ops Q rest (a.put o.dst (.slice (some ⟨w.heap.size, 0, none⟩) n m)) w') :
    wpList P ops Q (o :: rest) a w := by
  obtain ⟨i, hi, hzz⟩ := Option.map_eq_some_iff.1 h2
  simp only [Prod.mk.injEq] at hzz
  obtain ⟨hz, hs, hb⟩ := hzz
  have hr := run_make (P := P) w t e i _ h1 hi hz kl kc n m (by omega) (by omega) (by rw [hb]; omega) (by omega)
  rw [Int.toNat_natCast, Int.toNat_natCast, hs, hcs] at hr
  refine wpList_plain hg fun K hK' => ?_
  unfold Oper.wp
  simp only [execOp, hop, hl, hc, hr, Sem.run_bind, Result.andThen_ok, Sem.run_pure]
  exact hK' _ _ (hK _ (Blk.new w e _) ((Below.refl _ _).alloc (Nat.le_refl _) _) (by simp))
end Go

/- The first 16 bytes of SHA-256, as plain Lean functions over UInt32 and lists of bytes, with no program in sight. No condition. -/
namespace Sha

structure St where
  a : UInt32
  b : UInt32
  c : UInt32
  d : UInt32
  e : UInt32
  f : UInt32
  g : UInt32
  h : UInt32
  deriving DecidableEq

def rotr (x : UInt32) (n : Nat) : UInt32 := (x >>> UInt32.ofNat n) ||| (x <<< UInt32.ofNat (32 - n))
def s0 (x : UInt32) : UInt32 := rotr x 7 ^^^ rotr x 18 ^^^ (x >>> 3)
def s1 (x : UInt32) : UInt32 := rotr x 17 ^^^ rotr x 19 ^^^ (x >>> 10)
/-- the next word, the words so far standing in a list, the newest first -/
def next (l : List UInt32) : UInt32 := s1 (l.getD 1 0) + l.getD 6 0 + s0 (l.getD 14 0) + l.getD 15 0
def step (m : Nat → UInt32) (t : Nat) (l : List UInt32) : List UInt32 := (if t < 16 then m t else next l) :: l
def ws (m : Nat → UInt32) : Nat → List UInt32
  | 0 => []
  | t + 1 => step m t (ws m t)
/-- word number t -/
def wd (m : Nat → UInt32) (t : Nat) : UInt32 := (ws m (t + 1)).getD 0 0

theorem ws_length (m : Nat → UInt32) : ∀ t, (ws m t).length = t
  | 0 => rfl
  | t + 1 => by simp [ws, step, ws_length m t]
theorem ws_get (m : Nat → UInt32) : ∀ (t i : Nat), i < t → (ws m t).getD (t - 1 - i) 0 = wd m i
  | 0, i, h => by omega
  | t + 1, i, h => by
    by_cases e : i = t
    · subst e
      simp [wd]
    · have := ws_get m t i (by omega)
      have e2 : t + 1 - 1 - i = (t - 1 - i) + 1 := by omega
      rw [e2]
      simp only [ws, step, List.getD_cons_succ]
      exact this
theorem wd_lo (m : Nat → UInt32) {t : Nat} (h : t < 16) : wd m t = m t := by simp [wd, ws, step, h]
theorem wd_hi (m : Nat → UInt32) {t : Nat} (h : 16 ≤ t) : wd m t = s1 (wd m (t - 2)) + wd m (t - 7) + s0 (wd m (t - 15)) + wd m (t - 16) := by
  have h1 := ws_get m t (t - 2) (by omega)
  have h2 := ws_get m t (t - 7) (by omega)
  have h3 := ws_get m t (t - 15) (by omega)
  have h4 := ws_get m t (t - 16) (by omega)
  rw [show t - 1 - (t - 2) = 1 by omega] at h1
  rw [show t - 1 - (t - 7) = 6 by omega] at h2
  rw [show t - 1 - (t - 15) = 14 by omega] at h3
  rw [show t - 1 - (t - 16) = 15 by omega] at h4
  rw [← h1, ← h2, ← h3, ← h4]
  simp [wd, ws, step, next, show ¬ t < 16 by omega]

def t1 (k w : UInt32) (s : St) : UInt32 := s.h + (rotr s.e 6 ^^^ rotr s.e 11 ^^^ rotr s.e 25) + ((s.e &&& s.f) ^^^ (~~~s.e &&& s.g)) + k + w
def t2 (s : St) : UInt32 := (rotr s.a 2 ^^^ rotr s.a 13 ^^^ rotr s.a 22) + ((s.a &&& s.b) ^^^ (s.a &&& s.c) ^^^ (s.b &&& s.c))
def round (k w : UInt32) (s : St) : St := ⟨t1 k w s + t2 s, s.a, s.b, s.c, s.d + t1 k w s, s.e, s.f, s.g⟩

def kl : List UInt32 := [
  0x428a2f98, 0x71374491, 0xb5c0fbcf, 0xe9b5dba5, 0x3956c25b, 0x59f111f1, 0x923f82a4, 0xab1c5ed5,
  0xd807aa98, 0x12835b01, 0x243185be, 0x550c7dc3, 0x72be5d74, 0x80deb1fe, 0x9bdc06a7, 0xc19bf174,
  0xe49b69c1, 0xefbe4786, 0x0fc19dc6, 0x240ca1cc, 0x2de92c6f, 0x4a7484aa, 0x5cb0a9dc, 0x76f988da,
  0x983e5152, 0xa831c66d, 0xb00327c8, 0xbf597fc7, 0xc6e00bf3, 0xd5a79147, 0x06ca6351, 0x14292967,
  0x27b70a85, 0x2e1b2138, 0x4d2c6dfc, 0x53380d13, 0x650a7354, 0x766a0abb, 0x81c2c92e, 0x92722c85,
  0xa2bfe8a1, 0xa81a664b, 0xc24b8b70, 0xc76c51a3, 0xd192e819, 0xd6990624, 0xf40e3585, 0x106aa070,
  0x19a4c116, 0x1e376c08, 0x2748774c, 0x34b0bcb5, 0x391c0cb3, 0x4ed8aa4a, 0x5b9cca4f, 0x682e6ff3,
  0x748f82ee, 0x78a5636f, 0x84c87814, 0x8cc70208, 0x90befffa, 0xa4506ceb, 0xbef9a3f7, 0xc67178f2]
def kt (t : Nat) : UInt32 := kl.getD t 0
def init : St := ⟨0x6a09e667, 0xbb67ae85, 0x3c6ef372, 0xa54ff53a, 0x510e527f, 0x9b05688c, 0x1f83d9ab, 0x5be0cd19⟩

/-- behind t rounds -/
def rounds (m : Nat → UInt32) (s : St) : Nat → St
  | 0 => s
  | t + 1 => round (kt t) (wd m t) (rounds m s t)
def add (s x : St) : St := ⟨s.a + x.a, s.b + x.b, s.c + x.c, s.d + x.d, s.e + x.e, s.f + x.f, s.g + x.g, s.h + x.h⟩
def be (a b c d : UInt8) : UInt32 := (a.toUInt32 <<< 24) ||| (b.toUInt32 <<< 16) ||| (c.toUInt32 <<< 8) ||| d.toUInt32
/-- word number t of bytes, from a place on -/
def word (l : List UInt8) (at_ t : Nat) : UInt32 := be (l.getD (at_ + 4 * t) 0) (l.getD (at_ + 4 * t + 1) 0) (l.getD (at_ + 4 * t + 2) 0) (l.getD (at_ + 4 * t + 3) 0)
/-- a block mixed in: the 64 bytes from a place on -/
def blk (s : St) (l : List UInt8) (at_ : Nat) : St := add s (rounds (word l at_) s 64)
/-- n blocks from a place on -/
def blks (l : List UInt8) (s : St) : Nat → St
  | 0 => s
  | n + 1 => blk (blks l s n) l (64 * n)

theorem fold4 (a b c d : UInt32) : ((((((0 : UInt32) <<< 8) ||| a) <<< 8 ||| b) <<< 8 ||| c) <<< 8) ||| d = (a <<< 24) ||| (b <<< 16) ||| (c <<< 8) ||| d := by
  have e0 : ((0 : UInt32) <<< 8) = 0 := rfl
  have e1 : ∀ x : UInt32, x <<< 8 <<< 8 = x <<< 16 := fun x => by rw [← UInt32.shiftLeft_add (by decide) (by decide) (by decide)]; rfl
  have e2 : ∀ x : UInt32, x <<< 16 <<< 8 = x <<< 24 := fun x => by rw [← UInt32.shiftLeft_add (by decide) (by decide) (by decide)]; rfl
  simp only [e0, UInt32.zero_or, UInt32.shiftLeft_or, e1, e2]
/-- the first k bytes of a word -/
def part (l : List UInt8) (at_ t : Nat) : Nat → UInt32
  | 0 => 0
  | k + 1 => (part l at_ t k <<< 8) ||| (l.getD (at_ + 4 * t + k) 0).toUInt32
theorem part_four (l : List UInt8) (at_ t : Nat) : part l at_ t 4 = word l at_ t := by
  simp only [part, word, be, Nat.add_zero]
  generalize l.getD (at_ + 4 * t) 0 = a
  generalize l.getD (at_ + 4 * t + 1) 0 = b
  generalize l.getD (at_ + 4 * t + 2) 0 = c
  generalize l.getD (at_ + 4 * t + 3) 0 = d
  exact fold4 _ _ _ _

theorem word_drop (l : List UInt8) (k at_ t : Nat) : word (l.drop k) at_ t = word l (k + at_) t := by
  simp [word, List.getD_eq_getElem?_getD, List.getElem?_drop, Nat.add_assoc]
theorem blk_drop (s : St) (l : List UInt8) (k at_ : Nat) : blk s (l.drop k) at_ = blk s l (k + at_) := by
  have : word (l.drop k) at_ = word l (k + at_) := funext (word_drop l k at_)
  rw [blk, blk, this]

def get (s : St) : Nat → UInt32
  | 0 => s.a
  | 1 => s.b
  | 2 => s.c
  | 3 => s.d
  | 4 => s.e
  | 5 => s.f
  | 6 => s.g
  | _ => s.h
def byte (x : UInt32) (i : Nat) : UInt8 := UInt8.ofNat (x.toNat / 2 ^ (24 - 8 * i) % 256)
def zeros (n : Nat) : Nat := (119 - n % 64) % 64
/-- a number's eight bytes, the highest first -/
def eight (n : Nat) : List UInt8 := (List.range 8).map fun k => UInt8.ofNat (n / 2 ^ (56 - 8 * k) % 256)
theorem eight_length (n : Nat) : (eight n).length = 8 := by simp [eight]
theorem eight_take (n k : Nat) (h : k < 8) : (eight n).take (k + 1) = (eight n).take k ++ [UInt8.ofNat (n / 2 ^ (56 - 8 * k) % 256)] := by
  rw [List.take_succ_eq_append_getElem (by rw [eight_length]; exact h)]
  simp [eight]
def tail (n : Nat) : List UInt8 := 128 :: (List.replicate (zeros n) 0 ++ eight (n * 8))
def pad (l : List UInt8) : List UInt8 := l ++ tail l.length
/-- byte number k of what comes out -/
def outAt (s : St) (k : Nat) : UInt8 := byte (get s (k / 4)) (k % 4)
def out (s : St) : List UInt8 := (List.range 16).map (outAt s)
def sum (l : List UInt8) : List UInt8 := out (blks (pad l) init ((pad l).length / 64))

theorem sum_length (l : List UInt8) : (sum l).length = 16 := by simp [sum, out]
theorem zeros_add (n t : Nat) : zeros (n + 64 * t) = zeros n := by unfold zeros; rw [Nat.add_mul_mod_self_left]
theorem zeros_not {n i : Nat} (hn : n < 64) (h : i < zeros n) : (n + 1 + i) % 64 ≠ 56 := by
  unfold zeros at h
  have : n % 64 = n := Nat.mod_eq_of_lt hn
  rw [this] at h
  omega
theorem zeros_is {n : Nat} (hn : n < 64) : (n + 1 + zeros n) % 64 = 56 := by
  unfold zeros
  have : n % 64 = n := Nat.mod_eq_of_lt hn
  rw [this]
  omega
theorem zeros_mod (n : Nat) : zeros (n % 64) = zeros n := by unfold zeros; rw [Nat.mod_mod]
theorem zeros_not' {n i : Nat} (h : i < zeros n) : (n + 1 + i) % 64 ≠ 56 := by
  have h1 := zeros_not (n := n % 64) (Nat.mod_lt _ (by omega)) (by rw [zeros_mod]; exact h)
  omega
theorem zeros_is' (n : Nat) : (n + 1 + zeros n) % 64 = 56 := by
  have h1 := zeros_is (n := n % 64) (Nat.mod_lt _ (by omega))
  rw [zeros_mod] at h1
  omega
theorem zeros_lt (n : Nat) : zeros n < 64 := Nat.mod_lt _ (by omega)
theorem tail_length (n : Nat) : (tail n).length = zeros n + 9 := by simp [tail, eight_length]
theorem pad_length (l : List UInt8) : (pad l).length = l.length + zeros l.length + 9 := by simp [pad, tail_length]; omega
theorem pad_mod (l : List UInt8) : (pad l).length % 64 = 0 := by rw [pad_length]; unfold zeros; omega


theorem ws_congr {m m' : Nat → UInt32} (h : ∀ t, t < 16 → m t = m' t) : ∀ t, ws m t = ws m' t
  | 0 => rfl
  | t + 1 => by
    simp only [ws, step, ws_congr h t]
    by_cases e : t < 16
    · rw [if_pos e, if_pos e, h t e]
    · rw [if_neg e, if_neg e]
theorem rounds_congr {m m' : Nat → UInt32} (h : ∀ t, t < 16 → m t = m' t) (s : St) : ∀ t, rounds m s t = rounds m' s t
  | 0 => rfl
  | t + 1 => by
    have e : wd m t = wd m' t := by unfold wd; rw [ws_congr h]
    simp only [rounds, e, rounds_congr h s t]
theorem word_append (l x : List UInt8) (at_ t : Nat) (h : at_ + 4 * t + 4 ≤ l.length) : word (l ++ x) at_ t = word l at_ t := by
  have e : ∀ i, i < l.length → (l ++ x).getD i 0 = l.getD i 0 := fun i hi => by
    rw [List.getD_eq_getElem?_getD, List.getD_eq_getElem?_getD, List.getElem?_append_left hi]
  unfold word
  rw [e _ (by omega), e _ (by omega), e _ (by omega), e _ (by omega)]
theorem blk_append (s : St) (l x : List UInt8) (at_ : Nat) (h : at_ + 64 ≤ l.length) : blk s (l ++ x) at_ = blk s l at_ := by
  unfold blk
  rw [rounds_congr (fun t ht => word_append l x at_ t (by omega)) s 64]
theorem blks_append (l x : List UInt8) (s : St) : ∀ n, 64 * n ≤ l.length → blks (l ++ x) s n = blks l s n
  | 0, _ => rfl
  | n + 1, h => by
    simp only [blks, blks_append l x s n (by omega)]
    exact blk_append _ _ _ _ (by omega)
end Sha

/- The functions that turn a word right, and the tables of constants, answer what the plain functions say. Condition: the count is from 1 to 31. -/
namespace Go.Proofs.YtekdcjaljjlemaaDoor
open Go.RowKit
theorem u64_and31 (n : Nat) (h1 : 1 ≤ n) (h2 : n ≤ 31) : bits .and .u64 (IntKind.u64.wrap (-(n : Int))) 31 = ((32 - n : Nat) : Int) := by
  have e : IntKind.u64.wrap (-(n : Int)) = ((18446744073709551616 - n : Nat) : Int) := by
    have : IntKind.u64.wrap (-(n : Int)) = (-(n : Int)) % 18446744073709551616 := by simp [IntKind.wrap, IntKind.bits, IntKind.signed]
    rw [this]; omega
  rw [e]
  have := u64_and_nat (18446744073709551616 - n) 31 (by omega) (by omega)
  have e2 : (18446744073709551616 - n) &&& 31 = 32 - n := by
    have := Nat.and_two_pow_sub_one_eq_mod (18446744073709551616 - n) 5
    simp only [Nat.reducePow, Nat.reduceSub] at this
    rw [this]; omega
  rw [e2] at this
  exact this
set_option maxHeartbeats 400000 in
theorem right_any (x: UInt32) (n : Int) (h1 : 1 ≤ n) (h2 : n ≤ 31) (w : World) :
    Calls Tryd.prog 71 #[.int .u32 (iu32 x), .int .i64 n] w fun e w' => e = .returned (.int .u32 (iu32 (Sha.rotr x n.toNat))) ∧ ∃ k, w' = w.drewN k := by
  obtain ⟨n, rfl⟩ := Int.eq_ofNat_of_zero_le (show 0 ≤ n by omega)
  have e1 := u32_shr_w x n (by omega)
  have e2 := u32_shl_w x (32 - n) (by omega)
  have e3 : (32 - (n : Int)).toNat = 32 - n := by omega
  go_enter Tryd.func71, Tryd.ntmps71
  go_wp2
  go_quiet (fail)
  go_wp2
  go_ret
  exact ⟨rfl, _, rfl⟩
set_option maxHeartbeats 400000 in
theorem rot_any (x: UInt32) (n : Int) (h1 : 1 ≤ n) (h2 : n ≤ 31) (w : World) :
    Calls Tryd.prog 74 #[.int .u32 (iu32 x), .int .i64 (-n)] w fun e w' => e = .returned (.int .u32 (iu32 (Sha.rotr x n.toNat))) ∧ w = w' := by
  obtain ⟨n, rfl⟩ := Int.eq_ofNat_of_zero_le (show 0 ≤ n by omega)
  have e1 := u32_shr_w x n (by omega)
  have e2 := u32_shl_w x (32 - n) (by omega)
  have e3 : (32 - (n : Int)).toNat = 32 - n := by omega
  have e5 : 32 - (32 - n) = n := by omega
  have e6 : (32 : Int) - ((32 - n : Nat) : Int) = (n : Int) := by omega
  have e4 := u64_and31 n (by omega) (by omega)
  go_enter Tryd.func74, Tryd.ntmps74
  go_wp2
  go_ret
  exact ⟨ret_int (by rw [UInt32.or_comm]; rfl), rfl⟩
set_option maxHeartbeats 400000 in
theorem turned_any (x: UInt32) (n : Int) (h1 : 1 ≤ n) (h2 : n ≤ 31) (w : World) :
    Calls Tryd.prog 70 #[.int .u32 (iu32 x), .int .i64 n] w fun e w' => e = .returned (.int .u32 (iu32 (Sha.rotr x n.toNat))) ∧ w = w' := by
  go_enter Tryd.func70, Tryd.ntmps70
  go_wp2_with fail
  refine (rot_any x n h1 h2 _).mono ?_
  rintro e w' ⟨rfl, rfl⟩
  go_wp2
  go_ret
  exact ⟨rfl, rfl⟩
end Go.Proofs.YtekdcjaljjlemaaDoor

/- What the blocks hold in which both texts mix 64 bytes in: plain facts on worlds. No condition. -/
namespace Go.Proofs.YtekdcjaljjlemaaDoor
open Go.RowKit
def wcell (m : Nat → UInt32) (t i : Nat) : Value := .int .u32 (if i < t then iu32 (Sha.wd m i) else 0)
def zero64 : Array Value := arr 64 fun _ => .int .u32 0
def zero8 : Array Value := arr 8 fun _ => .int .u32 0
def karr : Array Value := arr 64 fun i => .int .u32 (iu32 (Sha.kt i))
def st8 (s : Sha.St) : Array Value := #[.int .u32 (iu32 s.a), .int .u32 (iu32 s.b), .int .u32 (iu32 s.c), .int .u32 (iu32 s.d), .int .u32 (iu32 s.e), .int .u32 (iu32 s.f), .int .u32 (iu32 s.g), .int .u32 (iu32 s.h)]
theorem st8_arr (s : Sha.St) : st8 s = arr 8 fun i => .int .u32 (iu32 (Sha.get s i)) := rfl
/-- The eight words, of which the first t have been added to. -/
def sum8 (s x : Sha.St) (t : Nat) : Array Value := arr 8 fun i => .int .u32 (iu32 (if i < t then Sha.get s i + Sha.get x i else Sha.get s i))
theorem sum8_zero (s x : Sha.St) : st8 s = sum8 s x 0 := by rw [st8_arr]; exact arr_congr fun i _ => by simp
theorem sum8_get (s x : Sha.St) (t : Nat) (h : t < 8) : (sum8 s x t)[t]? = some (.int .u32 (iu32 (Sha.get s t))) := by rw [sum8, arr_at _ h]; simp
theorem st8_get (x : Sha.St) (t : Nat) (h : t < 8) : (st8 x)[t]? = some (.int .u32 (iu32 (Sha.get x t))) := by rw [st8_arr, arr_at _ h]
theorem sum8_set (s x : Sha.St) (t : Nat) : (sum8 s x t).setIfInBounds t (.int .u32 (iu32 (Sha.get s t + Sha.get x t))) = sum8 s x (t + 1) := by
  unfold sum8
  rw [arr_set]
  refine arr_congr fun i _ => ?_
  by_cases e : i = t
  · subst e; simp
  · rw [if_neg e]
    by_cases e2 : i < t
    · rw [if_pos e2, if_pos (by omega)]
    · rw [if_neg e2, if_neg (by omega)]
theorem sum8_all (s x : Sha.St) : sum8 s x 8 = st8 (Sha.add s x) := by
  rw [st8_arr]
  refine arr_congr fun i hi => ?_
  rw [if_pos hi]
  match i, hi with
  | 0, _ => rfl
  | 1, _ => rfl
  | 2, _ => rfl
  | 3, _ => rfl
  | 4, _ => rfl
  | 5, _ => rfl
  | 6, _ => rfl
  | 7, _ => rfl
theorem st8_size (s : Sha.St) : (st8 s).size = 8 := rfl
theorem karr_size : karr.size = 64 := arr_size _ _
theorem zero8_size : zero8.size = 8 := arr_size _ _
theorem zero64_size : zero64.size = 64 := arr_size _ _
theorem st8_one (s : Sha.St) : (st8 s).all (·.oneCell') = true := by simp [st8, Value.oneCell']
theorem size8 : (Tryd.prog.info? 97).map (·.size) = some 8 := by kernel_rfl
theorem alloc64 (w : World) : (zeroValue 98).run Tryd.prog w = .ok (.agg zero64) w := by
  have h : (Tryd.prog.info? 98).map (fun i => (i.zero, i.size)) = some (some (.agg zero64), 64) := by kernel_rfl
  exact (zero_of_info h).1 w
/-- What the function's own blocks hold: the words, the constants, the result's place, the schedule. -/
structure BInv (T : TypeId) (w0 wr : World) (hs : Sha.St) (m : Nat → UInt32) (t : Nat) : Prop where
  ww : Blk wr (w0.heap.size + 1 + 1 + 1) 98 (arr 64 (wcell m t))
  hh : Blk wr w0.heap.size T (st8 hs)
  kk : Blk wr (w0.heap.size + 1) 98 karr
  zz : Blk wr (w0.heap.size + 1 + 1) T zero8
  bel : Below w0.heap.size w0 wr
theorem BInv.drewN {T : TypeId} {w0 wr : World} {hs : Sha.St} {m : Nat → UInt32} {t : Nat} (h : BInv T w0 wr hs m t) (k : Nat) : BInv T w0 (wr.drewN k) hs m t :=
  ⟨h.ww, h.hh, h.kk, h.zz, ⟨h.bel.os, h.bel.tape, h.bel.output, h.bel.size, h.bel.block⟩⟩
theorem BInv.store {T : TypeId} {w0 wr : World} {hs : Sha.St} {m : Nat → UInt32} {t : Nat} (h : BInv T w0 wr hs m t) (x : UInt32) (hx : Sha.wd m t = x) :
    BInv T w0 (wr.setCell ⟨w0.heap.size + 1 + 1 + 1, t, none⟩ (.int .u32 (iu32 x))).drew hs m (t + 1) := by
  refine ⟨?_, h.hh.off (by omega) _, h.kk.off (by omega) _, h.zz.off (by omega) _, (h.bel.set_ (by omega) _).drew⟩
  have hs := h.ww.set_ t (.int .u32 (iu32 x))
  rw [arr_set] at hs
  refine hs.sub (arr_congr fun i hi => ?_)
  unfold wcell
  by_cases e : i = t
  · subst e; rw [if_pos rfl, if_pos (by omega), hx]
  · rw [if_neg e]; by_cases e2 : i < t
    · rw [if_pos e2, if_pos (by omega)]
    · rw [if_neg e2, if_neg (by omega)]
theorem BInv.get {T : TypeId} {w0 wr : World} {hs : Sha.St} {m : Nat → UInt32} {t : Nat} (h : BInv T w0 wr hs m t) {i : Nat} (hi : i < t) (h64 : i < 64) :
    wr.cell? ⟨w0.heap.size + 1 + 1 + 1, i, none⟩ = some (.int .u32 (iu32 (Sha.wd m i))) := by
  rw [h.ww.cell i, arr_at _ h64, wcell, if_pos hi]
theorem BInv.get' {T : TypeId} {w0 wr : World} {hs : Sha.St} {m : Nat → UInt32} {t : Nat} (h : BInv T w0 wr hs m t) {i : Nat} (h64 : i < 64) :
    wr.cell? ⟨w0.heap.size + 1 + 1 + 1, i, none⟩ = some (wcell m t i) := by
  rw [h.ww.cell i, arr_at _ h64]
theorem BInv.new (T : TypeId) (w : World) (hs : Sha.St) (m : Nat → UInt32) : BInv T w ((((w.alloc (.cells (st8 hs) T)).alloc (.cells karr 98)).alloc (.cells #[.int .u32 0, .int .u32 0, .int .u32 0, .int .u32 0, .int .u32 0, .int .u32 0, .int .u32 0, .int .u32 0] T)).alloc (.cells zero64 98)) hs m 0 := by
  refine ⟨?_, ?_, ?_, ?_, ?_⟩
  · exact Blk.new' _ _ _ (by simp)
  · exact ((Blk.new' _ _ _ rfl).alloc _).alloc _ |>.alloc _
  · exact ((Blk.new' _ _ _ (by simp)).alloc _).alloc _
  · exact ((Blk.new' _ _ _ (by simp)).alloc _)
  · exact (((Below.refl _ _).alloc (by simp) _).alloc (by simp) _ |>.alloc (by simp; omega) _).alloc (by simp; omega) _
theorem BInv.alloc {T : TypeId} {w0 wr : World} {hs : Sha.St} {m : Nat → UInt32} {t : Nat} (h : BInv T w0 wr hs m t) (o : Obj) : BInv T w0 (wr.alloc o) hs m t :=
  ⟨h.ww.alloc o, h.hh.alloc o, h.kk.alloc o, h.zz.alloc o, h.bel.alloc (by have := h.hh.lt; omega) o⟩
theorem BInv.upd {T : TypeId} {w0 wr w' : World} {hs : Sha.St} {m : Nat → UInt32} {t g : Nat} (h : BInv T w0 wr hs m t) (u : Upd g wr w') (hg : w0.heap.size + 1 + 1 + 1 < g) : BInv T w0 w' hs m t :=
  ⟨h.ww.upd u (by omega), h.hh.upd u (by omega), h.kk.upd u (by omega), h.zz.upd u (by omega), h.bel.upd u (by omega)⟩
theorem zero8_new (T : TypeId) (w : World) : Blk (w.alloc (.cells #[.int .u32 0, .int .u32 0, .int .u32 0, .int .u32 0, .int .u32 0, .int .u32 0, .int .u32 0, .int .u32 0] T)) w.heap.size T zero8 := Blk.new _ _ _
/-- While word number t is being read: what it is so far. -/
structure PInv (T : TypeId) (w0 wr : World) (hs : Sha.St) (m : Nat → UInt32) (t : Nat) (p : UInt32) : Prop where
  ww : Blk wr (w0.heap.size + 1 + 1 + 1) 98 (arr 64 fun j => if j = t then .int .u32 (iu32 p) else wcell m t j)
  hh : Blk wr w0.heap.size T (st8 hs)
  kk : Blk wr (w0.heap.size + 1) 98 karr
  zz : Blk wr (w0.heap.size + 1 + 1) T zero8
  bel : Below w0.heap.size w0 wr
theorem BInv.part {T : TypeId} {w0 wr : World} {hs : Sha.St} {m : Nat → UInt32} {t : Nat} (h : BInv T w0 wr hs m t) : PInv T w0 wr hs m t 0 :=
  ⟨h.ww.sub (arr_congr fun j _ => by by_cases e : j = t <;> simp [e, wcell, iu32]), h.hh, h.kk, h.zz, h.bel⟩
theorem PInv.get {T : TypeId} {w0 wr : World} {hs : Sha.St} {m : Nat → UInt32} {t : Nat} {p : UInt32} (h : PInv T w0 wr hs m t p) (h64 : t < 64) :
    wr.cell? ⟨w0.heap.size + 1 + 1 + 1, t, none⟩ = some (.int .u32 (iu32 p)) := by
  rw [h.ww.cell t, arr_at _ h64, if_pos rfl]
theorem PInv.store {T : TypeId} {w0 wr : World} {hs : Sha.St} {m : Nat → UInt32} {t : Nat} {p : UInt32} (h : PInv T w0 wr hs m t p) (x : UInt32) :
    PInv T w0 (wr.setCell ⟨w0.heap.size + 1 + 1 + 1, t, none⟩ (.int .u32 (iu32 x))).drew hs m t x := by
  refine ⟨?_, h.hh.off (by omega) _, h.kk.off (by omega) _, h.zz.off (by omega) _, (h.bel.set_ (by omega) _).drew⟩
  have hs := h.ww.set_ t (.int .u32 (iu32 x))
  rw [arr_set] at hs
  refine hs.sub (arr_congr fun i hi => ?_)
  by_cases e : i = t
  · simp [e]
  · simp [e]
theorem PInv.whole {T : TypeId} {w0 wr : World} {hs : Sha.St} {m : Nat → UInt32} {t : Nat} {p : UInt32} (h : PInv T w0 wr hs m t p) (e : p = Sha.wd m t) : BInv T w0 wr hs m (t + 1) := by
  subst e
  refine ⟨h.ww.sub (arr_congr fun j _ => ?_), h.hh, h.kk, h.zz, h.bel⟩
  by_cases e : j = t
  · simp [e, wcell]
  · simp only [if_neg e, wcell]
    by_cases e2 : j < t
    · rw [if_pos e2, if_pos (by omega)]
    · rw [if_neg e2, if_neg (by omega)]
theorem quiet_left {P : Program} {f : FuncId} {args : Array Value} {w : World} {n : Nat} {v : Value}
    (h : Calls P f args (w.drewN n) fun e w' => e = .returned v ∧ w.drewN n = w') : Calls P f args (w.drewN n) fun e w'' => e = .returned v ∧ ∃ m, w'' = w.drewN m :=
  h.mono fun _ _ ⟨he, hm⟩ => ⟨he, n, hm.symm⟩

end Go.Proofs.YtekdcjaljjlemaaDoor
