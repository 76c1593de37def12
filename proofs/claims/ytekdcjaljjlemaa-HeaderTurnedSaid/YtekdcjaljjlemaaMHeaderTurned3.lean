/- A region that draws its order, taken by a plan: operations that leave the world alone are taken first wherever they may come, the others come up in one forced order. Plain facts over any program. No condition. -/
import Derived.Test.YtekdcjaljjlemaaMHeaderTurned2
import Derived.Deep.MidRow
import Derived.OrdersIn
import Derived.Test.YtekdcjaljjlemaaRows
namespace Go
section
variable {P : Program} {ops : Array Oper} {md : Region.Mode} {C : World → Prop} {Z : List Nat} {Q : Exit → Act → World → Prop}
/-- In state 'a', in every world of the class, the operation leaves v in its temporary, and that very world. -/
def YieldsC (P : Program) (ops : Array Oper) (C : World → Prop) (o : Oper) (v : Value) (a : Act) : Prop :=
  (Region.wanted o (yielded ops a.tmps) = true ∧ ∀ w, C w → o.quietAt P a (fun w' => w' = w) w v) ∨
  (Region.wanted o (yielded ops a.tmps) = false ∧ v = undef)
theorem YieldsC.of_same {o : Oper} {v : Value} {a a' : Act} (hy : YieldsC P ops C o v a) (he : execOp a'.eval o = execOp a.eval o)
    (hw : Region.wanted o (yielded ops a'.tmps) = Region.wanted o (yielded ops a.tmps)) : YieldsC P ops C o v a' := by
  unfold YieldsC Oper.quietAt at *
  rw [he, hw]
  exact hy
theorem YieldsC.wpOp {i : Nat} {o : Oper} {v : Value} {a : Act} (hi : ops[i]? = some o) (hy : YieldsC P ops C o v a) {K : Act → World → Prop} {w : World} (hC : C w) (h : K (a.put o.dst v) w) : wpOp P ops Q i K a w := by
  unfold Go.wpOp
  simp only [hi]
  rcases hy with ⟨hw, hv⟩ | ⟨hw, rfl⟩
  · simp only [hw, if_true]
    have h1 := hv w hC
    refine .inl ?_
    unfold Oper.quietAt at h1
    unfold Oper.wp
    generalize (execOp a.eval o).run P w = r at *
    cases r with
    | ok n w' =>
      cases n <;> simp only [Oper.quietUpon] at h1 <;> simp only [Oper.upon]
      case value u => obtain ⟨e1, e2⟩ := h1; rw [e1, e2]; exact h
      case skip => obtain ⟨e1, e2⟩ := h1; rw [e1, ← e2]; exact h
      case enter f args =>
        obtain ⟨e1, hc⟩ := h1
        rw [e1]
        exact hc.mono fun e w'' ⟨he, hw''⟩ => by subst he; rw [hw'']; exact h
    | halt x w' => simp only [Oper.quietUpon] at h1
  · simp only [hw, Bool.false_eq_true, if_false]; exact h
theorem wpOp_putC {j : Nat} {oi oj : Oper} {v : Value} (hj : ops[j]? = some oj) (hap : oi.apart ops oj = true)
    (hsi : ∀ cs b, oi.op ≠ .select cs b) (hsj : ∀ cs b, oj.op ≠ .select cs b)
    (hQ : ∀ c a a' w, a'.defers = a.defers → Q (.panic c) a' w → Q (.panic c) a w) {K : Act → World → Prop} {a : Act} {w : World}
    (hy : YieldsC P ops C oi v a) (h : wpOp P ops Q j K (a.put oi.dst v) w) :
    wpOp P ops Q j (fun a' w' => YieldsC P ops C oi v a' ∧ K (a'.put oi.dst v) w') a w := by
  obtain ⟨h1, h2, h3⟩ := Oper.apart_spec hap
  have hdef : ∀ (a : Act) (d : Option Tmp) (v : Value), (a.put d v).defers = a.defers := fun a d v => by cases d <;> rfl
  have keep : ∀ (a : Act), YieldsC P ops C oi v a → ∀ u, YieldsC P ops C oi v (a.put oj.dst u) := fun a hy u =>
    hy.of_same (execOp_put oi hsi a oj.dst u h3) (wanted_put oi a oj.dst u h3)
  have keepD : ∀ d, YieldsC P ops C oi v { a with defers := d :: a.defers } := fun d => hy.of_same rfl rfl
  unfold wpOp at *
  simp only [hj] at *
  rw [wanted_put oj a oi.dst v h1] at h
  split
  · rename_i hw
    simp only [hw, if_true] at h
    rcases h with h | ⟨hasks, hlets⟩
    case inr => exact .inr ⟨by unfold Oper.asks at *; rw [execOp_put oj hsj a oi.dst v h1] at hasks; exact hasks, hlets⟩
    refine .inl ?_
    unfold Oper.wp at *
    rw [execOp_put oj hsj a oi.dst v h1] at h
    generalize (execOp a.eval oj).run P w = r at *
    cases r with
    | ok n w' =>
      cases n <;> simp only [Oper.upon] at h ⊢
      case value u => exact ⟨keep a hy u, by rw [← Act.put_comm a v u h2]; exact h⟩
      case skip => exact ⟨keep a hy _, by rw [← Act.put_comm a v undef h2]; exact h⟩
      case defer d =>
        refine ⟨keep _ (keepD d) _, ?_⟩
        rw [← Act.put_comm _ v undef h2, ← Act.put_defers]
        exact h
      case enter f args =>
        refine Calls.mono h fun e w'' he => ?_
        cases e with
        | returned u => exact ⟨keep a hy u, by rw [← Act.put_comm a v u h2]; exact he⟩
        | panicked c => exact hQ _ _ _ _ (hdef _ _ _) he
        | outgrown => exact he
      case row row args => exact Rows.mono h fun u w'' he => ⟨keep a hy u, by rw [← Act.put_comm a v u h2]; exact he⟩
    | halt x w' =>
      cases x <;> simp only [Oper.upon] at h ⊢
      case panic u => exact hQ _ _ _ _ (hdef _ _ _) h
  · rename_i hw
    simp only [hw] at h
    exact ⟨keep a hy _, by rw [← Act.put_comm a v undef h2]; exact h⟩

/-- Whatever order is picked from here on; behind each operation but those of Z the world is of the class. -/
def wpAnyC (P : Program) (md : Region.Mode) (ops : Array Oper) (C : World → Prop) (Z : List Nat) (Q : Exit → Act → World → Prop) : Nat → Array Bool → Act → World → Prop
  | 0, listed, a, w => Region.ready md ops listed = [] ∧ Q .normal a w
  | fuel + 1, listed, a, w =>
    (Region.ready md ops listed = [] → Q .normal a w) ∧
    ∀ i ∈ Region.ready md ops listed, wpOp P ops Q i (fun a' w' => (i ∈ Z ∨ C w') ∧ wpAnyC P md ops C Z Q fuel (listed.setIfInBounds i true) a' w') a w
theorem wpAny_of_C : ∀ (fuel : Nat) (s : Array Bool) (a : Act) (w : World), wpAnyC P md ops C Z Q fuel s a w → wpAny P md ops Q fuel s a w
  | 0, _, _, _, h => h
  | fuel + 1, _, _, _, h => ⟨h.1, fun i hi => wpOp_mono (fun a' w' h' => wpAny_of_C fuel _ a' w' h'.2) (h.2 i hi)⟩
theorem wpAnyC_first {i : Nat} {oi : Oper} {v : Value} (hi : ops[i]? = some oi) (hns : Region.noSelect ops = true)
    (hQ : ∀ c a a' w, a'.defers = a.defers → Q (.panic c) a' w → Q (.panic c) a w) (hZ : ∀ z ∈ Z, Region.waitsFor md ops z i = true) :
    ∀ (fuel : Nat) (s : Array Bool) (a : Act) (w : World),
      (∀ j oj, ops[j]? = some oj → j ≠ i → s.getD j true = false → (∀ e ∈ oj.after, Region.binds md e = true → e.on ≠ i) → oi.apart ops oj = true) →
      i ∈ Region.ready md ops s → YieldsC P ops C oi v a → C w →
      wpAnyC P md ops C Z Q fuel (s.setIfInBounds i true) (a.put oi.dst v) w → wpAnyC P md ops C Z Q (fuel + 1) s a w := by
  have sel := fun (j : Nat) (o : Oper) cs b => Region.noSelect_spec hns j o cs b
  intro fuel
  induction fuel with
  | zero =>
    intro s a w _ hr hy hC H
    refine ⟨fun h => (by rw [h] at hr; cases hr), fun j hj => ?_⟩
    by_cases hji : j = i
    · subst hji; exact hy.wpOp hi hC ⟨.inr hC, H⟩
    · have := ready_mono hj hji
      rw [H.1] at this
      cases this
  | succ fuel ih =>
    intro s a w hfree hr hy hC H
    refine ⟨fun h => (by rw [h] at hr; cases hr), fun j hj => ?_⟩
    by_cases hji : j = i
    · subst hji; exact hy.wpOp hi hC ⟨.inr hC, H⟩
    · have h1 := H.2 j (ready_mono hj hji)
      obtain ⟨hjun, oj, hoj, hall⟩ := mem_ready.1 hj
      have hiun := (mem_ready.1 hr).1
      have hnot : ∀ e ∈ oj.after, Region.binds md e = true → e.on ≠ i := fun e he hb heq => by
        have h2 := hall e he hb
        rw [heq, getD_both hiun] at h2
        cases h2
      have hjZ : j ∉ Z := fun hz => by
        obtain ⟨ot, hot, e, he, hb, hon⟩ := Region.waitsFor_spec (hZ j hz)
        have : ot = oj := Option.some.inj (hot.symm.trans hoj)
        rw [this] at he
        exact hnot e he hb hon
      have h2 := wpOp_putC hoj (hfree j oj hoj hji hjun hnot) (fun cs b => sel i oi cs b hi) (fun cs b => sel j oj cs b hoj) hQ hy h1
      have hfree' : ∀ k ok, ops[k]? = some ok → k ≠ i → (s.setIfInBounds j true).getD k true = false →
          (∀ e ∈ ok.after, Region.binds md e = true → e.on ≠ i) → oi.apart ops ok = true := fun k ok hk hki hun hno => by
        refine hfree k ok hk hki ?_ hno
        by_cases hjk : j = k
        · subst hjk; exact hjun
        · rw [getD_set_ne true hjk] at hun; exact hun
      refine wpOp_mono (fun a' w' h3 => ?_) h2
      have hC' : C w' := h3.2.1.resolve_left hjZ
      refine ⟨.inr hC', ih (s.setIfInBounds j true) a' w' hfree' (ready_mono hr (Ne.symm hji)) h3.1 hC' ?_⟩
      rw [Array.setIfInBounds_comm _ _ hji]
      exact h3.2.2
/-- Operations that leave the world as it is. -/
def Op.stillB : Op → Bool
  | .load .. | .pick .. | .makeInterface .. | .nilCheck .. => true
  | o => o.valued
theorem still_run {o : Oper} (h : o.op.stillB = true) (ρ : Operand → Value) (w w' : World) (n : Next) (hr : (execOp ρ o).run P w = .ok n w') : ∃ v, n = .value v := by
  have key : ∀ (m : Sem Value), (do let x ← m; pure (Next.value x) : Sem Next).run P w = .ok n w' → ∃ v, n = .value v := by
    intro m hm
    rw [Sem.run_bind] at hm
    generalize m.run P w = r at hm
    cases r with
    | ok x w2 => simp only [Result.andThen_ok, Sem.run_pure, Result.ok.injEq] at hm; exact ⟨x, hm.1.symm⟩
    | halt x w2 => simp [Result.andThen] at hm
  by_cases hv : o.op.valued = true
  · exact valued_run hv ρ w w' n hr
  obtain ⟨dst, op, type, pos, after, guard⟩ := o
  cases op
  case load => exact key _ hr
  case makeInterface => exact key _ hr
  case nilCheck x =>
    have hno : ∀ {e : RuntimeError}, e = .nilDeref → (runtimePanic e : Sem Next).run P w ≠ .ok n w' := fun he hh => by subst he; cases hh
    have hp : ∀ y : Value, (pure (Next.value y) : Sem Next).run P w = .ok n w' → ∃ v, n = .value v := fun y hy => by rw [Sem.run_pure, Result.ok.injEq] at hy; exact ⟨_, hy.1.symm⟩
    simp only [execOp] at hr
    split at hr
    · exact absurd hr (hno rfl)
    · exact absurd hr (hno rfl)
    · exact absurd hr (hno rfl)
    · split at hr
      · exact absurd hr (hno rfl)
      · rw [Sem.run_bind] at hr
        generalize (program).run P w = r0 at hr
        cases r0 with
        | halt y w2 => simp [Result.andThen] at hr
        | ok pp w1 =>
          rw [Result.andThen_ok, Sem.run_bind] at hr
          generalize (nilAhead _ _ _ _).run P w1 = r1 at hr
          cases r1 with
          | halt y w2 => simp [Result.andThen] at hr
          | ok bb w2 =>
            rw [Result.andThen_ok] at hr
            split at hr
            · simp [Result.andThen] at hr
            · rw [Sem.run_pure, Result.ok.injEq] at hr; exact ⟨_, hr.1.symm⟩
      · exact hp _ hr
    · exact hp _ hr
  case pick c a b =>
    simp only [execOp, Sem.run_bind] at hr
    generalize (asBool (ρ c)).run P w = r at hr
    cases r with
    | ok x w2 => simp only [Result.andThen_ok, Sem.run_pure, Result.ok.injEq] at hr; exact ⟨_, hr.1.symm⟩
    | halt x w2 => simp [Result.andThen] at hr
  all_goals first
    | (simp [Op.stillB] at h; exact absurd h hv)
    | (simp [Op.stillB] at h; done)
    | (simp [Op.valued] at hv; done)
/-- Such operations, walked in a class of worlds, yield in each of them and leave it. -/
theorem yieldsC_of {o : Oper} {a : Act} {v : Value} (h : o.op.stillB = true) (hy : YieldsIn P ops C o v a) : YieldsC P ops C o v a := by
  rcases hy with ⟨h1, h2⟩ | h1
  · refine .inl ⟨h1, fun w hw => ?_⟩
    have h3 := h2 w hw
    unfold Oper.quietAt at h3 ⊢
    cases hr : (execOp a.eval o).run P w with
    | ok n w' =>
      obtain ⟨u, rfl⟩ := still_run h _ _ _ _ hr
      rw [hr] at h3
      exact h3
    | halt x w' => rw [hr] at h3; exact h3
  · exact .inr h1

/-! The plan: (true, i): i is taken first; (false, i): i is the only one that may come. -/
def Region.planB (md : Region.Mode) (ops : Array Oper) (Z : List Nat) : List (Bool × Nat) → Array Bool → Bool
  | [], s => (Region.ready md ops s).isEmpty
  | (true, i) :: r, s => (Region.ready md ops s).contains i && Region.free md ops s i && (Z.all fun z => Region.waitsFor md ops z i) && Region.planB md ops Z r (s.setIfInBounds i true)
  | (false, i) :: r, s => decide (Region.ready md ops s = [i]) && Region.planB md ops Z r (s.setIfInBounds i true)
def wpPlan (P : Program) (ops : Array Oper) (C : World → Prop) (Z : List Nat) (Q : Exit → Act → World → Prop) : List (Bool × Nat) → Act → World → Prop
  | [], a, w => Q .normal a w
  | (true, i) :: r, a, w => match ops[i]? with
    | some o => ∃ v, YieldsC P ops C o v a ∧ (C w → wpPlan P ops C Z Q r (a.put o.dst v) w)
    | none => False
  | (false, i) :: r, a, w => wpOp P ops Q i (fun a' w' => (i ∈ Z ∨ C w') ∧ wpPlan P ops C Z Q r a' w') a w
/-- Is it known, at each place of the plan where something is taken first, that the world is of the class? (No place of Z stands ahead of it.) -/
def Region.planZ (Z : List Nat) : List (Bool × Nat) → Bool → Bool
  | [], _ => true
  | (true, _) :: r, c => c && Region.planZ Z r c
  | (false, i) :: r, c => Region.planZ Z r (c && !Z.contains i)
theorem anyC_of_plan (hns : Region.noSelect ops = true) (hQ : ∀ c a a' w, a'.defers = a.defers → Q (.panic c) a' w → Q (.panic c) a w) :
    ∀ (pl : List (Bool × Nat)) (c : Bool) (s : Array Bool) (a : Act) (w : World), Region.planB md ops Z pl s = true → Region.planZ Z pl c = true → (c = true → C w) → wpPlan P ops C Z Q pl a w → wpAnyC P md ops C Z Q pl.length s a w := by
  intro pl
  induction pl with
  | nil => intro c s a w hB _ _ h; exact ⟨by simpa [Region.planB] using hB, h⟩
  | cons x r ih =>
    obtain ⟨b, i⟩ := x
    intro c s a w hB hz hC h
    cases b with
    | true =>
      simp only [Region.planB, Bool.and_eq_true] at hB
      simp only [Region.planZ, Bool.and_eq_true] at hz
      obtain ⟨⟨⟨h1, h2⟩, h3⟩, h4⟩ := hB
      have hr : i ∈ Region.ready md ops s := by simpa using h1
      obtain ⟨_, oi, hoi, _⟩ := mem_ready.1 hr
      simp only [wpPlan, hoi] at h
      obtain ⟨v, hy, hn⟩ := h
      exact wpAnyC_first hoi hns hQ (fun z hz => List.all_eq_true.1 h3 z hz) r.length s a w (Region.free_spec hoi h2) hr hy (hC hz.1) (ih c _ _ _ h4 hz.2 hC (hn (hC hz.1)))
    | false =>
      simp only [Region.planB, Bool.and_eq_true, decide_eq_true_eq] at hB
      simp only [Region.planZ] at hz
      refine ⟨fun h0 => (by rw [hB.1] at h0; cases h0), fun j hj => ?_⟩
      rw [hB.1] at hj
      have hji : j = i := by simpa using hj
      rw [hji]
      refine wpOp_mono (fun a' w' h' => ⟨h'.1, ih (c && !Z.contains i) _ a' w' hB.2 hz (fun hc => ?_) h'.2⟩) h
      simp only [Bool.and_eq_true, Bool.not_eq_true'] at hc
      refine h'.1.resolve_left fun hm => ?_
      rw [List.contains_iff_mem.2 hm] at hc
      cases hc.2
/-- **THE REGION, BY A PLAN.** -/
theorem wp_region_plan {id : Nat} {a : Act} {w : World} {l : List Oper} (C : World → Prop) (Z : List Nat) (pl : List (Bool × Nat)) (hm : P.follows .mixedOrders = true)
    (hB : (Region.noSelect l.toArray && Region.planB .any l.toArray Z pl (Array.replicate l.toArray.size false) && Region.planZ Z pl true && decide (pl.length = l.toArray.size)) = true)
    (hQ : ∀ c a a' w, a'.defers = a.defers → Q (.panic c) a' w → Q (.panic c) a w) (hC : C w.drew) (h : wpPlan P l.toArray C Z Q pl a w.drew) : (Code.region id l.toArray true).wp P Q a w := by
  simp only [Bool.and_eq_true, decide_eq_true_eq] at hB
  obtain ⟨⟨⟨h1, h2⟩, h3⟩, h4⟩ := hB
  refine wp_region_any hm ?_
  rw [← h4]
  exact wpAny_of_C _ _ _ _ (anyC_of_plan h1 hQ pl true _ a w.drew (by rw [h4]; exact h2) h3 (fun _ => hC) h)
/-- Operations that are taken first, walked as quiet ones. -/
theorem wpPlan_take {w : World} (is : List Nat) (r : List (Bool × Nat)) : ∀ (a : Act), ((is.filterMap fun i => ops[i]?).all fun o => o.op.stillB) = true → (is.all fun i => decide (i < ops.size)) = true →
    C w → wpQuiet P ops C (fun a' => wpPlan P ops C Z Q r a' w) (is.filterMap fun i => ops[i]?) a → wpPlan P ops C Z Q (is.map (fun i => (true, i)) ++ r) a w := by
  induction is with
  | nil => intro a _ _ _ h; exact h
  | cons i is ih =>
    intro a hs hlt hC h
    simp only [List.all_cons, Bool.and_eq_true, decide_eq_true_eq] at hlt
    have hi : ops[i]? = some ops[i] := Array.getElem?_eq_getElem hlt.1
    simp only [List.filterMap_cons, hi, List.all_cons, Bool.and_eq_true] at hs h
    have hq : qOp P ops C i (wpQuiet P ops C (fun a' => wpPlan P ops C Z Q r a' w) (is.filterMap fun i => ops[i]?)) a := by unfold qOp; simp only [hi]; exact h
    obtain ⟨v, hy, hK⟩ := yieldsIn_of_qOp hi hq
    simp only [List.map_cons, List.cons_append, wpPlan, hi]
    exact ⟨v, yieldsC_of hs.1 hy, fun _ => ih _ hs.2 hlt.2 hC hK⟩
theorem wpPlan_takeL {l : List Oper} {w : World} (is : List Nat) (r : List (Bool × Nat)) (a : Act) (hs : ((is.filterMap fun i => l[i]?).all fun o => o.op.stillB) = true) (hlt : (is.all fun i => decide (i < l.length)) = true)
    (hC : C w) (h : wpQuiet P l.toArray C (fun a' => wpPlan P l.toArray C Z Q r a' w) (is.filterMap fun i => l[i]?) a) : wpPlan P l.toArray C Z Q (is.map (fun i => (true, i)) ++ r) a w := by
  have e : (is.filterMap fun i => l.toArray[i]?) = is.filterMap fun i => l[i]? := by congr 1; funext i; exact List.getElem?_toArray ..
  exact wpPlan_take is r a (by rw [e]; exact hs) (by simpa using hlt) hC (by rw [e]; exact h)
/-- .. operations that hang on no world. -/
theorem wpPlan_pure {l : List Oper} {w : World} (is : List Nat) (r : List (Bool × Nat)) : ∀ (a : Act), ((is.filterMap fun i => l[i]?).all fun o => o.op.stillB) = true → (is.all fun i => decide (i < l.length)) = true →
    wpQuiet P l.toArray (fun _ => True) (fun a' => wpPlan P l.toArray C Z Q r a' w) (is.filterMap fun i => l[i]?) a → wpPlan P l.toArray C Z Q (is.map (fun i => (true, i)) ++ r) a w := by
  induction is with
  | nil => intro a _ _ h; exact h
  | cons i is ih =>
    intro a hs hlt h
    simp only [List.all_cons, Bool.and_eq_true, decide_eq_true_eq] at hlt
    have hi : l[i]? = some l[i] := List.getElem?_eq_getElem hlt.1
    have hi' : l.toArray[i]? = some l[i] := by rw [List.getElem?_toArray]; exact hi
    simp only [List.filterMap_cons, hi, List.all_cons, Bool.and_eq_true] at hs h
    have hq : qOp P l.toArray (fun _ => True) i (wpQuiet P l.toArray (fun _ => True) (fun a' => wpPlan P l.toArray C Z Q r a' w) (is.filterMap fun i => l[i]?)) a := by unfold qOp; simp only [hi']; exact h
    obtain ⟨v, hy, hK⟩ := yieldsIn_of_qOp hi' hq
    have hy' := yieldsC_of hs.1 hy
    simp only [List.map_cons, List.cons_append, wpPlan, hi']
    refine ⟨v, ?_, fun _ => ih _ hs.2 hlt.2 hK⟩
    rcases hy' with ⟨h1, h2⟩ | h1
    · exact .inl ⟨h1, fun w _ => h2 w trivial⟩
    · exact .inr h1
/-- What is asked behind an operation that had to come. -/
def PlanQ (P : Program) (ops : Array Oper) (C : World → Prop) (Z : List Nat) (Q : Exit → Act → World → Prop) (i : Nat) (r : List (Bool × Nat)) : Exit → Act → World → Prop
  | .normal, a, w => (i ∈ Z ∨ C w) ∧ wpPlan P ops C Z Q r a w
  | e, a, w => Q e a w
theorem wpPlan_force {a : Act} {w : World} {i : Nat} {r : List (Bool × Nat)} (o : Oper) (ho : ops[i]? = some o) (h : wpList P ops (PlanQ P ops C Z Q i r) [o] a w) : wpPlan P ops C Z Q ((false, i) :: r) a w := by
  simp only [wpPlan]
  unfold wpOp
  simp only [ho]
  unfold wpList at h
  have hmono : ∀ {a : Act} {w : World}, o.wp P a w (wpList P ops (PlanQ P ops C Z Q i r) []) (PlanQ P ops C Z Q i r) → o.wp P a w (fun a' w' => (i ∈ Z ∨ C w') ∧ wpPlan P ops C Z Q r a' w') Q := by
    intro a w h
    unfold Oper.wp at h ⊢
    generalize (execOp a.eval o).run P w = rr at *
    cases rr with
    | ok n w' =>
      cases n <;> simp only [Oper.upon] at h ⊢
      case value u => exact h
      case skip => exact h
      case defer d => exact h
      case enter f args =>
        refine Calls.mono h fun e w'' he => ?_
        cases e <;> exact he
      case row row args => exact Rows.mono h fun u w'' he => he
    | halt x w' => cases x <;> simp only [Oper.upon] at h ⊢; exact h
  split
  · rename_i hw
    rw [if_pos hw] at h
    rcases h with h | ⟨h1, h2⟩
    · exact .inl (hmono h)
    · exact .inr ⟨h1, h2⟩
  · rename_i hw
    rw [if_neg hw] at h
    exact h
theorem wpPlan_forceL {l : List Oper} {a : Act} {w : World} {i : Nat} {r : List (Bool × Nat)} (o : Oper) (ho : l[i]? = some o) (h : wpList P l.toArray (PlanQ P l.toArray C Z Q i r) [o] a w) : wpPlan P l.toArray C Z Q ((false, i) :: r) a w :=
  wpPlan_force o (by rw [List.getElem?_toArray]; exact ho) h
theorem wpPlan_nil {a : Act} {w : World} (h : Q .normal a w) : wpPlan P ops C Z Q [] a w := h
theorem PlanQ.in_ {a : Act} {w : World} {i : Nat} {r : List (Bool × Nat)} (hC : C w) (h : wpPlan P ops C Z Q r a w) : PlanQ P ops C Z Q i r .normal a w := ⟨.inr hC, h⟩
theorem PlanQ.out {a : Act} {w : World} {i : Nat} {r : List (Bool × Nat)} (hz : Z.contains i = true) (h : wpPlan P ops C Z Q r a w) : PlanQ P ops C Z Q i r .normal a w := ⟨.inl (by simpa using hz), h⟩
/-- The rest comes one by one, whatever becomes of the class: no place is taken first any more. -/
theorem wpPlan_rest {r : List Nat} : ∀ (l : List Oper) (a : Act) (w : World), r.map (fun i => ops[i]?) = l.map some → (r.all fun i => Z.contains i) = true → wpList P ops Q l a w → wpPlan P ops C Z Q (r.map fun i => (false, i)) a w := by
  induction r with
  | nil =>
    intro l a w hl _ h
    cases l with
    | nil => exact h
    | cons _ _ => simp at hl
  | cons i r ih =>
    intro l a w hl hz h
    cases l with
    | nil => simp at hl
    | cons o l =>
      simp only [List.map_cons, List.cons.injEq] at hl
      simp only [List.all_cons, Bool.and_eq_true] at hz
      simp only [List.map_cons, wpPlan]
      have hw : wpOp P ops Q i (wpList P ops Q l) a w := by unfold wpOp; simp only [hl.1]; exact h
      exact wpOp_mono (fun a' w' h' => ⟨.inl (by simpa using hz.1), ih l a' w' hl.2 hz.2 h'⟩) hw
theorem run_isAgg_cell {t : TypeId} {d : TypeDesc} (hu : P.underlying t = some d) (hd : d.isRow = false) (w : World) : (isAgg t).run P w = .ok false w := by
  unfold isAgg
  cases d <;> first | (simp [TypeDesc.isRow] at hd; done) | simp [run_underlying hu]
/-- A load of one cell that every world of the class has. -/
theorem wpQuiet_load_cell {R : Act → Prop} {rest : List Oper} {o : Oper} {a : Act} {b off : Nat} {v : Value} (hb : ∀ w, C w → w.cell? ⟨b, off, none⟩ = some v) (hgd : o.guard = none) (ty : TypeId) (x : Operand) (ho : o.op = .load ty x)
    (hx : a.eval x = .pointer (some ⟨b, off, none⟩)) (d : TypeDesc) (hu : P.underlying ty = some d) (hd : d.isRow = false)
    (h : wpQuiet P ops C R rest (a.put o.dst v)) : wpQuiet P ops C R (o :: rest) a := by
  refine wpQuiet_step fun K hK => ?_
  rw [if_pos (by simp [Region.wanted, hgd])]
  refine ⟨v, fun w hw => ?_, hK _ h⟩
  have hc := hb w hw
  unfold Oper.quietAt execOp
  simp only [ho, hx, Instr.loadAt, Instr.sureAddr, Sem.run_bind, Sem.run_pure, Result.andThen_ok, loadVar, run_isAgg_cell hu hd w, Bool.false_eq_true, if_false]
  simp [hc, Oper.quietUpon]
end
end Go

/- A region that draws its order, by a plan, inside a fence (the round of a loop over an iterator, too): operations that call nothing. Plain facts over any program. No condition. -/
namespace Go
section
variable {P : Program} {ops : Array Oper} {md : Region.Mode} {F : Fence} {n : Nat}
/-- An operation that yields a value or nothing, and calls nothing. -/
def Op.calmB : Op → Bool
  | .store .. => true
  | .call _ => false
  | o => o.stillB
theorem calm_about {o : Oper} (h : o.op.calmB = true) (w : World) (ρ : Operand → Value) : o.about P w ρ = none := by
  unfold Oper.about
  cases ho : o.op <;> first | rfl | skip
  rw [ho] at h
  simp [Op.calmB] at h
theorem calm_semAt {o : Oper} (h : o.op.calmB = true) (ρ : Operand → Value) (ro : Option Nat) : Oper.semAt ro ρ o = execOp ρ o :=
  Oper.semAt_eq ro ρ o fun c hc => by rw [hc] at h; simp [Op.calmB, Op.stillB, Op.valued] at h
theorem calm_run {o : Oper} (h : o.op.calmB = true) (ρ : Operand → Value) (w w' : World) (x : Next) (hr : (execOp ρ o).run P w = .ok x w') : (∃ v, x = .value v) ∨ x = .skip := by
  by_cases hs : o.op.stillB = true
  · exact .inl (still_run hs ρ w w' x hr)
  · obtain ⟨dst, op, type, pos, after, guard⟩ := o
    cases op
    case store t x y =>
      right
      simp only [execOp, Sem.run_bind] at hr
      generalize (Instr.storeAt _ _ _).run P w = r at hr
      cases r with
      | ok x w2 => simp only [Result.andThen_ok, Sem.run_pure, Result.ok.injEq] at hr; exact hr.1.symm
      | halt x w2 => simp [Result.andThen] at hr
    all_goals first | exact absurd h hs | (simp [Op.calmB] at h; done)
/-- The same ends but the machine's outgrowing. -/
def strict (Q : Exit → Act → World → Prop) : Exit → Act → World → Prop
  | .outgrown, _, _ => False
  | e, a, w => Q e a w
theorem strict_le (Q : Exit → Act → World → Prop) (e : Exit) (a : Act) (w : World) (h : strict Q e a w) : Q e a w := by
  cases e <;> first | exact h | exact h.elim
@[go_sem] theorem strict_normal (Q : Exit → Act → World → Prop) (a : Act) (w : World) : strict Q .normal a w = Q .normal a w := rfl
theorem opIn_of_op {Q : Exit → Act → World → Prop} {i : Nat} {K K' : Act → World → Prop} {a : Act} {w : World} (hc : (ops.all fun o => o.op.calmB) = true) (hk : ∀ a w, K a w → K' a w)
    (h : wpOp P ops (strict Q) i K a w) : wpOpIn F n P ops Q i K' a w := by
  unfold wpOp at h
  unfold wpOpIn
  cases ho : ops[i]? with
  | none => rw [ho] at h; exact hk _ _ h
  | some o =>
    rw [ho] at h
    have hco : o.op.calmB = true := by
      have := Array.all_eq_true'.1 hc o (Array.mem_of_getElem? ho)
      simpa using this
    simp only at h ⊢
    split
    · rename_i hw
      rw [if_pos hw] at h
      have hlet : ¬ LetsOut (strict Q) := fun ⟨_, _, hq⟩ => hq
      have h1 := h.resolve_right fun hh => hlet hh.2
      unfold Oper.wp at h1
      unfold Oper.wpIn
      refine ⟨fun f hf => (by rw [calm_about hco] at hf; cases hf), ?_⟩
      rw [calm_semAt hco]
      cases hr : (execOp a.eval o).run P w with
      | ok x w' =>
        rw [hr] at h1
        rcases calm_run hco _ _ _ _ hr with ⟨v, rfl⟩ | rfl
        · exact hk _ _ h1
        · exact hk _ _ h1
      | halt x w' =>
        rw [hr] at h1
        cases x <;> first | exact h1 | exact h1.elim
    · rename_i hw
      rw [if_neg hw] at h
      exact ⟨fun f hf => (by rw [calm_about hco] at hf; cases hf), hk _ _ h⟩
theorem anyIn_of_any {Q : Exit → Act → World → Prop} (hc : (ops.all fun o => o.op.calmB) = true) : ∀ (fuel : Nat) (s : Array Bool) (a : Act) (w : World), wpAny P md ops (strict Q) fuel s a w → wpAnyIn F n P md ops Q fuel s a w
  | 0, _, _, _, h => h
  | fuel + 1, _, _, _, h => ⟨h.1, fun i hi => opIn_of_op hc (fun a w => anyIn_of_any hc fuel _ a w) (h.2 i hi)⟩
/-- The plain end alone. -/
def tidy (Q : Exit → Act → World → Prop) : Exit → Act → World → Prop
  | .normal, a, w => Q .normal a w
  | _, _, _ => False
theorem tidy_le (Q : Exit → Act → World → Prop) (e : Exit) (a : Act) (w : World) (h : tidy Q e a w) : Q e a w := by
  cases e <;> first | exact h | exact h.elim
@[go_sem] theorem tidy_normal (Q : Exit → Act → World → Prop) (a : Act) (w : World) : tidy Q .normal a w = Q .normal a w := rfl
theorem wpPlan_tidy {C : World → Prop} {Z : List Nat} {Q : Exit → Act → World → Prop} {a : Act} {w : World} (h : Q .normal a w) : wpPlan P ops C Z (tidy Q) [] a w := h
theorem strict_tidy (Q : Exit → Act → World → Prop) : strict (tidy Q) = tidy Q := by
  funext e a w
  cases e <;> rfl
/-- **THE REGION, BY A PLAN, where it neither panics nor outgrows the machine.** -/
theorem wp_region_planT {id : Nat} {a : Act} {w : World} {l : List Oper} {Q : Exit → Act → World → Prop} (C : World → Prop) (Z : List Nat) (pl : List (Bool × Nat)) (hm : P.follows .mixedOrders = true)
    (hB : (Region.noSelect l.toArray && Region.planB .any l.toArray Z pl (Array.replicate l.toArray.size false) && Region.planZ Z pl true && decide (pl.length = l.toArray.size)) = true)
    (hC : C w.drew) (h : wpPlan P l.toArray C Z (tidy Q) pl a w.drew) : (Code.region id l.toArray true).wp P Q a w :=
  wp_mono (wp_region_plan C Z pl hm hB (fun _ _ _ _ _ q => q.elim) hC h) (tidy_le Q)
/-- **THE REGION, BY A PLAN, INSIDE A FENCE.** -/
theorem wpIn_region_planT {id : Nat} {a : Act} {w : World} {l : List Oper} {Q : Exit → Act → World → Prop} (C : World → Prop) (Z : List Nat) (pl : List (Bool × Nat)) (hm : P.follows .mixedOrders = true)
    (hB : (Region.noSelect l.toArray && Region.planB .any l.toArray Z pl (Array.replicate l.toArray.size false) && Region.planZ Z pl true && decide (pl.length = l.toArray.size)) = true)
    (hc : (l.toArray.all fun o => o.op.calmB) = true)
    (hC : C w.drew) (h : wpPlan P l.toArray C Z (tidy Q) pl a w.drew) : (Code.region id l.toArray true).wpIn F n P Q a w := by
  simp only [Bool.and_eq_true, decide_eq_true_eq] at hB
  obtain ⟨⟨⟨h1, h2⟩, h3⟩, h4⟩ := hB
  refine wpIn_mono (wpIn_region_any (Q := tidy Q) hm (anyIn_of_any hc _ _ _ _ ?_)) (tidy_le Q)
  rw [← h4, strict_tidy]
  exact wpAny_of_C _ _ _ _ (anyC_of_plan h1 (fun _ _ _ _ _ q => q.elim) pl true _ a w.drew (by rw [h4]; exact h2) h3 (fun _ => hC) h)
end
end Go

/- The fields of a header as pointers. No condition. -/
namespace Go.Proofs.Ytekdcjaljjlemaa
open Go.RowKit
def pt (hb i : Nat) : Value := .pointer (some ⟨hb, i, none⟩)
def pts (hb : Nat) (l : List Nat) : Array Value := (l.map (pt hb)).toArray
theorem results_cells3 {P : Program} {fn : Func} {p1 p2 p3 : Tmp} {t1 t2 t3 : TypeId} (h : fn.results = #[.cell p1 t1, .cell p2 t2, .cell p3 t3]) (tmps : Array Value) (w : World) (g1 g2 g3 : Nat) (v1 v2 v3 : Value)
    (hp1 : tmps.getD p1 undef = .pointer (some ⟨g1, 0, none⟩)) (hp2 : tmps.getD p2 undef = .pointer (some ⟨g2, 0, none⟩)) (hp3 : tmps.getD p3 undef = .pointer (some ⟨g3, 0, none⟩))
    (h1 : (loadVar t1 ⟨g1, 0, none⟩).run P w = .ok v1 w) (h2 : (loadVar t2 ⟨g2, 0, none⟩).run P w = .ok v2 w) (h3 : (loadVar t3 ⟨g3, 0, none⟩).run P w = .ok v3 w) :
    (results fn tmps).run P w = .ok (.tuple #[v1, v2, v3]) w := by
  have hp1' : tmps[p1]?.getD undef = .pointer (some ⟨g1, 0, none⟩) := by simpa using hp1
  have hp2' : tmps[p2]?.getD undef = .pointer (some ⟨g2, 0, none⟩) := by simpa using hp2
  have hp3' : tmps[p3]?.getD undef = .pointer (some ⟨g3, 0, none⟩) := by simpa using hp3
  simp [results, h, hp1', hp2', hp3', asAddr, h1, h2, h3]
theorem size9p : (Try.prog.info? 61).map (·.size) = some 9 := by kernel_rfl
theorem size2p : (Try.prog.info? 62).map (·.size) = some 2 := by kernel_rfl
theorem numbers_any (hb : Nat) (w : World) :
    Calls Try.prog 29 #[.pointer (some ⟨hb, 0, none⟩)] w fun e w' => e = .returned (.tuple #[.agg (pts hb [0, 1, 2, 3, 4, 5, 6, 7, 8]), .agg (pts hb [11, 12]), .agg (pts hb [14, 15])]) ∧ Below w.heap.size w w' := by
  go_enter Try.func29, Try.ntmps29
  go_wp2_with fail
  refine wp_region_planT (fun _ => True) [44] [(true, 0), (true, 1), (true, 2), (true, 3), (true, 4), (true, 5), (true, 6), (true, 7), (true, 8), (true, 9), (true, 10), (true, 11), (true, 12), (true, 13), (true, 14), (true, 15), (true, 16), (true, 17), (true, 18), (true, 19), (true, 20), (true, 21), (true, 22), (true, 23), (true, 24), (true, 25), (true, 26), (true, 27), (true, 28), (true, 29), (true, 30), (true, 31), (true, 32), (true, 33), (true, 34), (true, 35), (true, 36), (true, 37), (true, 38), (true, 39), (true, 40), (true, 41), (false, 42), (false, 43), (false, 44)] (by kernel_rfl) (by kernel_rfl) (trivial) ?_
  refine wpPlan_pure [0, 1, 2, 3, 4, 5, 6, 7, 8, 9, 10, 11, 12, 13, 14, 15, 16, 17, 18, 19, 20, 21, 22, 23, 24, 25, 26, 27, 28, 29, 30, 31, 32, 33, 34, 35, 36, 37, 38, 39, 40, 41] [(false, 42), (false, 43), (false, 44)] _ (by rfl) (by rfl) ?_
  dsimp only [List.filterMap, List.getElem?_cons_zero, List.getElem?_cons_succ]
  repeat (go_big_quiet_step (fail))
  refine wpQuiet_nil ?_
  refine wpPlan_forceL _ rfl ?_
  go_wp2_with fail
  refine PlanQ.in_ trivial ?_
  refine wpPlan_forceL _ rfl ?_
  go_wp2_with fail
  refine PlanQ.in_ trivial ?_
  refine wpPlan_forceL _ rfl ?_
  go_wp2_with fail
  refine PlanQ.in_ trivial ?_
  refine wpPlan_tidy ?_
  go_wp2
  have b1 := Blk.new w 61 (pts hb [0, 1, 2, 3, 4, 5, 6, 7, 8])
  have b2 := Blk.new (w.alloc (.cells (pts hb [0, 1, 2, 3, 4, 5, 6, 7, 8]) 61)) 62 (pts hb [11, 12])
  have b3 := Blk.new ((w.alloc (.cells (pts hb [0, 1, 2, 3, 4, 5, 6, 7, 8]) 61)).alloc (.cells (pts hb [11, 12]) 62)) 62 (pts hb [14, 15])
  replace b1 := (b1.alloc (.cells (pts hb [11, 12]) 62)).alloc (.cells (pts hb [14, 15]) 62)
  replace b2 := b2.alloc (.cells (pts hb [14, 15]) 62)
  rw [show (w.alloc (.cells (pts hb [0, 1, 2, 3, 4, 5, 6, 7, 8]) 61)).heap.size = w.heap.size + 1 by simp] at b2
  rw [show ((w.alloc (.cells (pts hb [0, 1, 2, 3, 4, 5, 6, 7, 8]) 61)).alloc (.cells (pts hb [11, 12]) 62)).heap.size = w.heap.size + 1 + 1 by simp] at b3
  have hB := ((((Below.refl w.heap.size w).alloc (Nat.le_refl _) (.cells (pts hb [0, 1, 2, 3, 4, 5, 6, 7, 8]) 61)).alloc (by simp) (.cells (pts hb [11, 12]) 62)).alloc (by simp; omega) (.cells (pts hb [14, 15]) 62)).drew
  refine bodyPost_ret (results_cells3 (by rfl) _ _ w.heap.size (w.heap.size + 1) (w.heap.size + 1 + 1) _ _ _ (by rfl) (by rfl) (by rfl)
    (run_loadVar_row _ _ _ _ _ _ _ b1.drew Try.underlying61 (by rfl) size9p) (run_loadVar_row _ _ _ _ _ _ _ b2.drew Try.underlying62 (by rfl) size2p) (run_loadVar_row _ _ _ _ _ _ _ b3.drew Try.underlying62 (by rfl) size2p)) rfl ⟨rfl, hB⟩
end Go.Proofs.Ytekdcjaljjlemaa

/- Append onto a slice that is full: the list stands in a new block, whatever the old one lay in. Plain facts over any program. No condition. -/
namespace Go
open Go.RowKit
section
variable {P : Program} (w : World)
theorem run_append_full (base : Nat) (t ty e : TypeId) (i : TypeInfo) (z : Value) (size bytes : Nat) (ht : P.underlying t = some (.slice e)) (hi : P.info? e = some i) (hz : i.zero = some z)
    (hsize : i.size = size) (hby : i.bytes = bytes) (hzs : z.cells.size = size) (hsz : 0 < size)
    (A0 : Option Addr) (n : Nat) (olds : List Value) (hl0 : olds.length = n * size) (hn0 : 0 < n) (hr0 : Reads w A0 olds)
    (A : Option Addr) (m c : Nat) (news : List Value) (hl : news.length = m * size) (hr : Reads w A news) (hm : 0 < m)
    (h63 : n + m ≤ maxLen) (hbytes : (n + m) * bytes ≤ 140737488355328) (hbase : base ≤ w.heap.size) :
    ∃ v' w' sp', (Builtin.append_ #[t, t] ty #[.slice A0 n n, .slice A m c]).run P w = .ok v' w' ∧ OwnsC e size w' base v' (n + m) (olds ++ news) sp' ∧ w.grownBy w' none ∧ v'.ownBlock = some w.heap.size := by
  subst hsize
  subst hby
  have hne : news ≠ [] := by intro h; have := Nat.mul_pos hm hsz; rw [h] at hl; simp only [List.length_nil] at hl; omega
  have hne0 : olds ≠ [] := by intro h; have := Nat.mul_pos hn0 hsz; rw [h] at hl0; simp only [List.length_nil] at hl0; omega
  obtain ⟨b, off, rfl, hc⟩ := hr hne
  obtain ⟨g, o0, rfl, hc0⟩ := hr0 hne0
  have hnews : ∀ j u, news[j]? = some u → w.cell? ((⟨b, off, none⟩ : Addr).add j) = some u := fun j u hu => by rw [Addr.add_lit]; exact hc j u hu
  have holds : ∀ j u, olds[j]? = some u → w.cell? ((⟨g, o0, none⟩ : Addr).add j) = some u := fun j u hu => by rw [Addr.add_lit]; exact hc0 j u hu
  have hsmall : n + m ≤ 9223372036854775807 := by simp only [maxLen] at h63; omega
  have hlen : (olds ++ news).length = (n + m) * i.size := by rw [List.length_append, hl0, hl, Nat.add_mul]
  have hrun := run_append_grow (P := P) w t ty e i z ht hi hz ⟨g, o0, none⟩ n n olds hl0 holds ⟨b, off, none⟩ m c news hl hnews (by omega) (by omega) (growslice_fits (by omega) hbytes)
  refine ⟨_, _, (Builtin.zeroCells z.cells (grownCap w (n + m) n e - (n + m))).toList, hrun, .inr ⟨w.heap.size, _, rfl, hbase, ?_, grownCap_ge w (n + m) n e, grownCap_le_maxLen w (n + m) n e h63, hlen, ?_⟩, ⟨rfl, rfl, rfl, by simp, fun k (hk : k < w.drew.heap.size) _ => Below.heap_alloc w.drew _ k hk⟩, rfl⟩
  · have := Blk.new w.drew e (olds.toArray ++ news.toArray ++ Builtin.zeroCells z.cells (grownCap w (n + m) n e - (n + m)))
    refine this.sub ?_
    simp
  · rw [Array.length_toList, size_zeroCells, hzs]
end
section
variable {P : Program} {w : World}
theorem wpList_append_full {ops : Array Oper} {rest : List Oper} {o : Oper} {a : Act} {Q : Exit → Act → World → Prop} (hgd : o.guard = none) (s x : Operand) (t : TypeId)
    (ho : o.op = .call { callee := .builtin .append, args := #[s, x], argTypes := #[t, t] })
    (base : Nat) (e : TypeId) (z : Value) (size bytes : Nat) (ht : P.underlying t = some (.slice e)) (hi : (P.info? e).map (fun i => (i.zero, i.size, i.bytes)) = some (some z, size, bytes)) (hzs : z.cells.size = size) (hsz : 0 < size)
    (A0 : Option Addr) (n : Nat) (olds : List Value) (hs : a.eval s = .slice A0 n n) (hl0 : olds.length = n * size) (hn0 : 0 < n) (hr0 : Reads w A0 olds)
    (A : Option Addr) (m c : Nat) (news : List Value) (hx : a.eval x = .slice A m c) (hl : news.length = m * size) (hr : Reads w A news) (hm : 0 < m)
    (h63 : n + m ≤ maxLen) (hbytes : (n + m) * bytes ≤ 140737488355328) (hbase : base ≤ w.heap.size)
    (h : ∀ v' w' sp', OwnsC e size w' base v' (n + m) (olds ++ news) sp' → Below w.heap.size w w' → v'.ownBlock = some w.heap.size → wpList P ops Q rest (a.put o.dst v') w') : wpList P ops Q (o :: rest) a w := by
  refine wpList_plain hgd fun _ hK => ?_
  obtain ⟨i, hi0, hz, hsize, hby⟩ := info_parts hi
  obtain ⟨v', w', sp', hrun, h2, h3, h4⟩ := run_append_full (P := P) w base t o.type e i z size bytes ht hi0 hz hsize hby hzs hsz A0 n olds hl0 hn0 hr0 A m c news hl hr hm h63 hbytes hbase
  unfold Oper.wp execOp
  simp only [ho, resolve, invoke, builtin, Sem.run_bind, Sem.run_pure, Result.andThen_ok, List.map_toArray, List.map_cons, List.map_nil, hs, hx, hrun]
  exact hK _ _ (h v' w' sp' h2 ((Below.refl _ _).grown h3 (Nat.le_refl _) (fun k hk => by cases hk)) h4)
/-- The same of an own list. -/
theorem wpList_append_all {ops : Array Oper} {rest : List Oper} {o : Oper} {a : Act} {Q : Exit → Act → World → Prop} (hgd : o.guard = none) (s x : Operand) (t : TypeId)
    (ho : o.op = .call { callee := .builtin .append, args := #[s, x], argTypes := #[t, t] })
    (base : Nat) (e : TypeId) (z : Value) (size bytes : Nat) (ht : P.underlying t = some (.slice e)) (hi : (P.info? e).map (fun i => (i.zero, i.size, i.bytes)) = some (some z, size, bytes)) (hzs : z.cells.size = size) (hsz : 0 < size)
    (v : Value) (n : Nat) (xs sp : List Value) (hs : a.eval s = v) (hown : OwnsC e size w base v n xs sp)
    (A : Option Addr) (m c : Nat) (news : List Value) (hx : a.eval x = .slice A m c) (hl : news.length = m * size) (hr : Reads w A news) (h1 : ∀ u ∈ news, u.oneCell' = true)
    (h63 : n + m ≤ maxLen) (hbytes : (n + m) * bytes ≤ 140737488355328) (hbase : base ≤ w.heap.size)
    (h : ∀ v' w' sp', OwnsC e size w' base v' (n + m) (xs ++ news) sp' → w.grownBy w' v.ownBlock → wpList P ops Q rest (a.put o.dst v') w') : wpList P ops Q (o :: rest) a w :=
  wpList_plain hgd fun _ hK => wp_append_all s x t ho base e z size bytes ht hi hzs hsz v n xs sp hs hown A m c news hx hl hr h1 h63 hbytes hbase fun v' w' sp' h1 h2 _ _ _ => hK _ _ (h v' w' sp' h1 h2)
end
end Go

/- May a header be: the program's answer. No condition. -/
namespace Go.Proofs.Ytekdcjaljjlemaa
open Go.RowKit
def hdv (f : HdF) (i : Nat) : Value := if i = 9 ∨ i = 10 ∨ i = 13 then .int .u64 (f i) else .int .i64 (f i)
def hdc (f : HdF) : Array Value := arr 16 (hdv f)
theorem hdc_at (f : HdF) (i : Nat) (h : i < 16) (h9 : i ≠ 9) (h10 : i ≠ 10) (h13 : i ≠ 13) : (hdc f)[i]? = some (.int .i64 (f i)) := by
  unfold hdc; rw [arr_at _ h]; unfold hdv; rw [if_neg (by omega)]
theorem hdc_u (f : HdF) (i : Nat) (h : i = 9 ∨ i = 10 ∨ i = 13) : (hdc f)[i]? = some (.int .u64 (f i)) := by
  unfold hdc; rw [arr_at _ (by omega)]; unfold hdv; rw [if_pos h]
theorem ptrinfo : (Try.prog.info? 60).map (fun i => (i.zero, i.size, i.bytes)) = some (some (.pointer none), 1, 8) := by kernel_rfl
theorem _root_.Go.Blk.reads {w : World} {g : Nat} {t : TypeId} {cs : Array Value} (h : Blk w g t cs) (o : Nat) (l : List Value) (hl : ∀ j v, l[j]? = some v → cs[o + j]? = some v) : Reads w (some ⟨g, o, none⟩) l := fun _ => ⟨g, o, rfl, fun j v hv => h.at_ (o + j) (hl j v hv)⟩
theorem pts_at (hb : Nat) (l : List Nat) (o : Nat) : ∀ j v, ((l.drop o).map (pt hb))[j]? = some v → (pts hb l)[o + j]? = some v := by
  intro j v hv
  unfold pts
  rw [List.getElem?_toArray, List.getElem?_map]
  rw [List.getElem?_map, List.getElem?_drop] at hv
  exact hv
theorem pt_one (hb : Nat) (l : List Nat) : ∀ u ∈ l.map (pt hb), u.oneCell' = true := by
  intro u hu; simp only [List.mem_map] at hu; obtain ⟨i, _, rfl⟩ := hu; rfl
def Hd.code (f : HdF) : Int := if Hd.ok f then 0 else 2
def ChkRel (f : HdF) (v : Value) : Prop := ∃ k : Nat, k ≤ 10 ∧ v = .int .i64 (k : Int) ∧ ∀ j, j < k → numOk (f (tenI.getD j 0)) = true
theorem hcheck_any (f : HdF) (w : World) :
    Calls Try.prog 11 #[.agg (hdc f)] w fun e w' => e = .returned (.int .i64 (Hd.code f)) ∧ Below w.heap.size w w' := by
  have hg := Blk.new w 26 (hdc f)
  have hB0 := (Below.refl w.heap.size w).alloc (Nat.le_refl _) (.cells (hdc f) 26)
  go_enter Try.func11, Try.ntmps11
  go_wp2_with fail
  generalize hw0 : w.alloc (.cells (hdc f) 26) = w0 at hg hB0 ⊢
  have hlt := hg.lt
  clear hw0
  refine (numbers_any w.heap.size w0).mono ?_
  rintro e w1 ⟨rfl, hB1⟩
  have hg1 := hg.below hB1 hlt
  have hB01 := hB0.trans (hB1.mono hB0.size)
  have HB01 := Lib.hid hB01
  clear hB01
  generalize w.heap.size = hb at hg1 hlt ⊢
  have b1 := Blk.new w1 61 (pts hb [0, 1, 2, 3, 4, 5, 6, 7, 8])
  have b2 := Blk.new (w1.alloc (.cells (pts hb [0, 1, 2, 3, 4, 5, 6, 7, 8]) 61)) 62 (pts hb [11, 12])
  have b3 := Blk.new ((w1.alloc (.cells (pts hb [0, 1, 2, 3, 4, 5, 6, 7, 8]) 61)).alloc (.cells (pts hb [11, 12]) 62)) 62 (pts hb [14, 15])
  replace b1 := (b1.alloc (.cells (pts hb [11, 12]) 62)).alloc (.cells (pts hb [14, 15]) 62)
  replace b2 := b2.alloc (.cells (pts hb [14, 15]) 62)
  rw [show (w1.alloc (.cells (pts hb [0, 1, 2, 3, 4, 5, 6, 7, 8]) 61)).heap.size = w1.heap.size + 1 by simp] at b2
  rw [show ((w1.alloc (.cells (pts hb [0, 1, 2, 3, 4, 5, 6, 7, 8]) 61)).alloc (.cells (pts hb [11, 12]) 62)).heap.size = w1.heap.size + 1 + 1 by simp] at b3
  have hB2 := (((Below.refl w1.heap.size w1).alloc (Nat.le_refl _) (.cells (pts hb [0, 1, 2, 3, 4, 5, 6, 7, 8]) 61)).alloc (by simp) (.cells (pts hb [11, 12]) 62)).alloc (by simp; omega) (.cells (pts hb [14, 15]) 62)
  have hg2 := hg1.below hB2 hg1.lt
  have H2 := Lib.hid (And.intro b1 (And.intro b2 (And.intro b3 (And.intro hg2 hB2))))
  clear b1 b2 b3 hg2 hB2 hg hB0 hB1
  simp only [pts, pt, List.map_cons, List.map_nil] at H2 ⊢
  go_wp2_with fail
  obtain ⟨b1, b2, b3, hg2, hB2⟩ := H2.out
  clear H2
  generalize ((w1.alloc _).alloc _).alloc _ = w2 at b1 b2 b3 hg2 hB2 ⊢
  generalize w1.heap.size = g1 at b1 b2 b3 ⊢
  have r1 : Reads w2.drew (some ⟨g1, 3, none⟩) ([3, 4, 5, 6, 7, 8].map (pt hb)) := Blk.reads (cs := pts hb [0, 1, 2, 3, 4, 5, 6, 7, 8]) b1.drew 3 _ (pts_at hb [0, 1, 2, 3, 4, 5, 6, 7, 8] 3)
  have r2 : Reads w2.drew (some ⟨g1 + 1, 0, none⟩) ([11, 12].map (pt hb)) := Blk.reads (cs := pts hb [11, 12]) b2.drew 0 _ (pts_at hb [11, 12] 0)
  have hl3 := b3.lt
  refine wp_region_planT (fun _ => True) [] [(true, 0), (true, 1), (true, 3), (true, 6), (false, 2), (false, 4), (true, 5)] (by kernel_rfl) (by kernel_rfl) (trivial) ?_
  refine wpPlan_pure [0, 1, 3, 6] [(false, 2), (false, 4), (true, 5)] _ (by rfl) (by rfl) ?_
  dsimp only [List.filterMap, List.getElem?_cons_zero, List.getElem?_cons_succ]
  repeat (go_big_quiet_step (fail))
  refine wpQuiet_nil ?_
  refine wpPlan_forceL _ rfl ?_
  go_wp2_with (first
    | (show wpList _ _ _ ((⟨some 15, _, _, _, _, _⟩ : Oper) :: _) _ _; refine wpList_append_full (o := ⟨some 15, _, _, _, _, _⟩) (by rfl) _ _ _ (by rfl) w2.drew.heap.size _ _ 1 8 Try.underlying66 ptrinfo (by rfl) (by omega) (some ⟨g1, 3, none⟩) 6 ([3, 4, 5, 6, 7, 8].map (pt hb)) (by rfl) (by rfl) (by omega) r1 (some ⟨g1 + 1, 0, none⟩) 2 2 ([11, 12].map (pt hb)) (by rfl) (by rfl) r2 (by omega) (by unfold maxLen; omega) (by omega) (Nat.le_refl _) ?_; intro v3 w3 sp3 ho3 hb3 hv3)
    | fail)
  refine PlanQ.in_ trivial ?_
  have r3 : Reads w3 (some ⟨g1 + 1 + 1, 0, none⟩) ([14, 15].map (pt hb)) := Blk.reads (cs := pts hb [14, 15]) (b3.drew.below hb3 hl3) 0 _ (pts_at hb [14, 15] 0)
  have hg3 := hg2.drew.below hb3 hg2.lt
  refine wpPlan_forceL _ rfl ?_
  go_wp2_with (first
    | (show wpList _ _ _ ((⟨some 17, _, _, _, _, _⟩ : Oper) :: _) _ _; refine wpList_append_all (o := ⟨some 17, _, _, _, _, _⟩) (by rfl) _ _ _ (by rfl) w2.drew.heap.size _ _ 1 8 Try.underlying66 ptrinfo (by rfl) (by omega) v3 8 _ sp3 (by rfl) ho3 (some ⟨g1 + 1 + 1, 0, none⟩) 2 2 ([14, 15].map (pt hb)) (by rfl) (by rfl) r3 (pt_one _ _) (by unfold maxLen; omega) (by omega) hb3.size ?_; intro v4 w4 sp4 ho4 hg4)
    | fail)
  refine PlanQ.in_ trivial ?_
  have hb4 := hb3.grown hg4 hb3.size (fun k hk => by rw [hv3] at hk; cases hk; exact Nat.le_refl _)
  have hgh := hg2.drew.below hb4 hg2.lt
  have hB12 := HB01.out.trans (hB2.mono HB01.out.size)
  have hB4 := hB12.drew.trans (hb4.mono hB12.drew.size)
  obtain ⟨A4, c4, rfl, _, _, hr4, _⟩ := OwnsC.reads ho4
  obtain ⟨bb, off, rfl, hc4⟩ := hr4 (by simp)
  have hpc : ∀ k, k < 10 → w4.cell? ⟨bb, off + k, none⟩ = some (.pointer (some ⟨hb, tenI.getD k 0, none⟩)) := fun k hk => hc4 k _ (by
    have : k = 0 ∨ k = 1 ∨ k = 2 ∨ k = 3 ∨ k = 4 ∨ k = 5 ∨ k = 6 ∨ k = 7 ∨ k = 8 ∨ k = 9 := by omega
    rcases this with rfl | rfl | rfl | rfl | rfl | rfl | rfl | rfl | rfl | rfl <;> rfl)
  have hfc : ∀ i, i < 16 → i ≠ 9 → i ≠ 10 → i ≠ 13 → w4.cell? ⟨hb, i, none⟩ = some (.int .i64 (f i)) := fun i h1 h2 h3 h4 => hgh.at_ i (hdc_at f i h1 h2 h3 h4)
  have HB := Lib.hid hB4
  clear hB4 hB12 hB2 HB01 hc4 hr4 ho4 hg4 hb4 hgh hg3 hg2 hg1 r3 r1 r2 hb3 ho3 b1 b2 b3 hl3
  refine wpPlan_pure [5] [] _ (by rfl) (by rfl) ?_
  dsimp only [List.filterMap, List.getElem?_cons_zero, List.getElem?_cons_succ]
  repeat (go_big_quiet_step (fail))
  refine wpQuiet_nil ?_
  refine wpPlan_tidy ?_
  go_wp2_with fail
  go_loop [19] (fun v => ChkRel f v) (fun v => 10 - (intOf v).toNat)
  case atStart => exact ⟨0, by omega, rfl, fun j hj => by omega⟩
  case round =>
    obtain ⟨k, hk, rfl, hall⟩ := hrel
    by_cases hk10 : k < 10
    · have hmem : tenI.getD k 0 ∈ tenI ∧ tenI.getD k 0 < 16 ∧ tenI.getD k 0 ≠ 9 ∧ tenI.getD k 0 ≠ 10 ∧ tenI.getD k 0 ≠ 13 := by
        have : k = 0 ∨ k = 1 ∨ k = 2 ∨ k = 3 ∨ k = 4 ∨ k = 5 ∨ k = 6 ∨ k = 7 ∨ k = 8 ∨ k = 9 := by omega
        rcases this with rfl | rfl | rfl | rfl | rfl | rfl | rfl | rfl | rfl | rfl <;> decide
      have d0 := hpc k hk10
      have d1 := hfc _ hmem.2.1 hmem.2.2.1 hmem.2.2.2.1 hmem.2.2.2.2
      by_cases hok : numOk (f (tenI.getD k 0)) = true
      · have hall' : ∀ j, j < k + 1 → numOk (f (tenI.getD j 0)) = true := fun j hj => by
          by_cases e : j = k
          · subst e; exact hok
          · exact hall j (by omega)
        have HA := Lib.hid hall'
        generalize tenI.getD k 0 = i at d0 d1 hok
        generalize f i = x at d1 hok
        obtain ⟨x1, x2⟩ : 0 ≤ x ∧ x ≤ 1073741824 := by simpa [numOk] using hok
        clear hall hall' hok hmem hpc hfc
        go_wp2
        go_round
        case rel =>
          have hch : ChkRel f (.int .i64 ((k : Int) + 1)) := ⟨k + 1, by omega, by go_num, HA.out⟩
          exact ⟨_, _, _, hch, rfl, rfl, rfl⟩
        case measure => simp [intOf]; omega
      · have hbad : Hd.code f = 2 := by
          unfold Hd.code; rw [if_neg]
          intro h
          have := (Hd.ok_spec h).2 _ hmem.1
          exact hok (by unfold numOk; rw [decide_eq_true this.1, decide_eq_true this.2]; rfl)
        have HC := Lib.hid hbad
        generalize tenI.getD k 0 = i at d0 d1 hok
        generalize f i = x at d1 hok
        have hx : x < 0 ∨ 1073741824 < x := by
          have : ¬ (0 ≤ x ∧ x ≤ 1073741824) := by simpa [numOk] using hok
          omega
        clear hall hok hmem hpc hfc hbad
        by_cases hx0 : x < 0
        · go_wp2
          go_ret
          exact ⟨ret_int HC.out.symm, HB.out⟩
        · have hx1 : 1073741824 < x := by omega
          go_wp2
          go_ret
          exact ⟨ret_int HC.out.symm, HB.out⟩
    · obtain rfl : k = 10 := by omega
      have hten : (tenI.all fun i => numOk (f i)) = true := by
        have := fun j hj => hall j hj
        simp only [tenI, List.all_cons, List.all_nil, Bool.and_true, Bool.and_eq_true]
        exact ⟨hall 0 (by omega), hall 1 (by omega), hall 2 (by omega), hall 3 (by omega), hall 4 (by omega), hall 5 (by omega), hall 6 (by omega), hall 7 (by omega), hall 8 (by omega), hall 9 (by omega)⟩
      have hcode : Hd.code f = if 1 ≤ f 0 ∧ f 0 ≤ 31 ∧ 0 ≤ f 1 ∧ f 1 ≤ 6 ∧ 0 ≤ f 2 ∧ f 2 ≤ 1024 then 0 else 2 := by
        unfold Hd.code Hd.ok
        rw [hten]
        simp only [Bool.and_true, Bool.and_eq_true, decide_eq_true_eq, and_assoc]
      have HC := Lib.hid hcode
      have d0 := hfc 0 (by omega) (by omega) (by omega) (by omega)
      have d1 := hfc 1 (by omega) (by omega) (by omega) (by omega)
      have d2 := hfc 2 (by omega) (by omega) (by omega) (by omega)
      generalize f 0 = x0 at d0 HC
      generalize f 1 = x1 at d1 HC
      generalize f 2 = x2 at d2 HC
      clear hpc hfc hall hten hcode
      go_wp2
      all_goals
        go_ret
        refine ⟨?_, HB.out⟩
        have hc := HC.out
        rw [hc]
        first
          | (rw [if_pos ⟨by omega, by omega, by omega, by omega, by omega, by omega⟩]; rfl)
          | (rw [if_neg (by simp [*] at *; omega)]; rfl)
end Go.Proofs.Ytekdcjaljjlemaa

/- Four bytes read as a number. Plain facts. -/
namespace Go.Proofs.Ytekdcjaljjlemaa
open Go.RowKit
theorem or_sum (a b k : Nat) (n : Nat) (hn : n = 2 ^ k) (ha : a < n) : a ||| (b * n) = a + b * n := by
  subst hn
  rw [Nat.mul_comm, Nat.or_comm, ← Nat.two_pow_add_eq_or_of_lt ha, Nat.add_comm]
theorem i64_or_nat (a b : Nat) (ha : a < 9223372036854775808) (hb : b < 9223372036854775808) : bits .or .i64 (a : Int) (b : Int) = ((a ||| b : Nat) : Int) := by
  have h2 : a ||| b < 2 ^ 63 := Nat.or_lt_two_pow (by omega) (by omega)
  show IntKind.i64.wrap ((BitVec.ofInt 64 (a : Int) ||| BitVec.ofInt 64 (b : Int)).toNat : Int) = _
  rw [BitVec.toNat_or, ofInt_u64 a (by omega), ofInt_u64 b (by omega), IntWalk.i64_left, IntWalk.wrap64_in _ ⟨by omega, by omega⟩]
theorem or4 (x0 x1 x2 x3 : UInt8) : bits BinOp.or IntKind.i64 (bits BinOp.or IntKind.i64 (bits BinOp.or IntKind.i64 (wrap64 (iu8 x0)) (wrap64 (wrap64 (iu8 x1) * 256))) (wrap64 (wrap64 (iu8 x2) * 65536))) (wrap64 (wrap64 (iu8 x3) * 16777216)) = (un4 x0 x1 x2 x3 : Int) := by
  have h0 := x0.toNat_lt; have h1 := x1.toNat_lt; have h2 := x2.toNat_lt; have h3 := x3.toNat_lt
  unfold iu8
  rw [IntWalk.wrap64_in (x0.toNat : Int) (by omega), IntWalk.wrap64_in (x1.toNat : Int) (by omega), IntWalk.wrap64_in (x2.toNat : Int) (by omega), IntWalk.wrap64_in (x3.toNat : Int) (by omega),
    IntWalk.wrap64_in ((x1.toNat : Int) * 256) (by omega), IntWalk.wrap64_in ((x2.toNat : Int) * 65536) (by omega), IntWalk.wrap64_in ((x3.toNat : Int) * 16777216) (by omega)]
  rw [show (x1.toNat : Int) * 256 = ((x1.toNat * 256 : Nat) : Int) by simp, show (x2.toNat : Int) * 65536 = ((x2.toNat * 65536 : Nat) : Int) by simp, show (x3.toNat : Int) * 16777216 = ((x3.toNat * 16777216 : Nat) : Int) by simp]
  rw [i64_or_nat _ _ (by omega) (by omega), or_sum _ _ 8 256 (by decide) (by omega), i64_or_nat _ _ (by omega) (by omega), or_sum _ _ 16 65536 (by decide) (by omega), i64_or_nat _ _ (by omega) (by omega), or_sum _ _ 24 16777216 (by decide) (by omega)]
  unfold un4
  omega
end Go.Proofs.Ytekdcjaljjlemaa

/- Fields read from bytes, four each. Conditions: the bytes can be read; the header lies in a block of its own. -/
namespace Go.Proofs.Ytekdcjaljjlemaa
open Go.RowKit
theorem _root_.Go.Upd.drewH {g : Nat} {a b : World} (h : Upd g a b) : Upd g a b.drew := ⟨h.os, h.tape, h.output, h.size, h.block⟩
def setF (f : HdF) (i : Nat) (v : Int) : HdF := fun x => if x = i then v else f x
theorem hdc_set (f : HdF) (i : Nat) (v : Int) (h9 : i ≠ 9) (h10 : i ≠ 10) (h13 : i ≠ 13) : (hdc f).setIfInBounds i (.int .i64 v) = hdc (setF f i v) := by
  unfold hdc
  rw [arr_set]
  refine arr_congr fun j _ => ?_
  unfold hdv setF
  by_cases e : j = i
  · subst e; rw [if_pos rfl, if_neg (by omega), if_pos rfl]
  · rw [if_neg e, if_neg e]
def stepsF (f : HdF) (raw : List UInt8) (idx : List Nat) : Nat → HdF
  | 0 => f
  | j + 1 => setF (stepsF f raw idx j) (idx.getD j 0) (at4 raw (4 * j))
def FrsRel (w : World) (hb : Nat) (f : HdF) (raw : List UInt8) (idx : List Nat) (v : Value) (wr : World) : Prop :=
  ∃ j : Nat, j ≤ idx.length ∧ v = .int .i64 (j : Int) ∧ Blk wr hb 26 (hdc (stepsF f raw idx j)) ∧ Upd hb w wr
set_option maxRecDepth 100000 in
set_option maxHeartbeats 2000000 in
theorem hfours_any (bb bo cap hb : Nat) (f : HdF) (raw : List UInt8) (idx : List Nat) (pb po pc : Nat) (h4 : 4 * idx.length ≤ raw.length) (hlen : raw.length ≤ 1000000) (w : World)
    (hraw : ∀ j, j < raw.length → w.cell? ⟨bb, bo + j, none⟩ = some (.int .u8 (iu8 (raw.getD j 0)))) (hg : Blk w hb 26 (hdc f))
    (hp : ∀ j, j < idx.length → w.cell? ⟨pb, po + j, none⟩ = some (.pointer (some ⟨hb, idx.getD j 0, none⟩)))
    (hi : ∀ j, j < idx.length → idx.getD j 0 < 16 ∧ idx.getD j 0 ≠ 9 ∧ idx.getD j 0 ≠ 10 ∧ idx.getD j 0 ≠ 13) (hne : pb ≠ hb ∧ bb ≠ hb) :
    Calls Try.prog 33 #[.slice (some ⟨bb, bo, none⟩) raw.length cap, .slice (some ⟨pb, po, none⟩) idx.length pc] w fun e w' =>
      e = .returned (.tuple #[]) ∧ Blk w' hb 26 (hdc (stepsF f raw idx idx.length)) ∧ Upd hb w w' := by
  go_enter Try.func33, Try.ntmps33
  go_wp2
  go_loopw [8] (fun v wr => FrsRel w hb f raw idx v wr) (fun v _ => idx.length - (intOf v).toNat)
  case atStart => exact ⟨0, by omega, rfl, hg, Upd.refl _ _⟩
  case round =>
    obtain ⟨j, hj, rfl, hgj, hu⟩ := hrel
    clear hg
    by_cases hjl : j < idx.length
    · have dp := (World.cell?_of_block (hu.block pb hne.1)).trans (hp j hjl)
      obtain ⟨i1, i2, i3, i4⟩ := hi j hjl
      have dr : ∀ k, k < raw.length → wr.cell? ⟨bb, bo + k, none⟩ = some (.int .u8 (iu8 (raw.getD k 0))) := fun k hk => (World.cell?_of_block (hu.block bb hne.2)).trans (hraw k hk)
      have r0 := dr (4 * j) (by omega)
      have r1 := dr (4 * j + 1) (by omega)
      have r2 := dr (4 * j + 2) (by omega)
      have r3 := dr (4 * j + 3) (by omega)
      have hst : stepsF f raw idx (j + 1) = setF (stepsF f raw idx j) (idx.getD j 0) (at4 raw (4 * j)) := rfl
      unfold at4 at hst
      generalize raw.getD (4 * j) 0 = x0 at r0 hst
      generalize raw.getD (4 * j + 1) 0 = x1 at r1 hst
      generalize raw.getD (4 * j + 2) 0 = x2 at r2 hst
      generalize raw.getD (4 * j + 3) 0 = x3 at r3 hst
      generalize idx.getD j 0 = i at dp i1 i2 i3 i4 hst
      have fz := hgj.frozen i
      have dz : wr.cell? ⟨hb, i, none⟩ = some (.int .i64 (stepsF f raw idx j i)) := hgj.at_ i (hdc_at _ i i1 i2 i3 i4)
      have hnx := (hgj.set_ i (.int .i64 (un4 x0 x1 x2 x3))).sub ((hdc_set _ i _ i2 i3 i4).trans (by rw [← hst]))
      have HN := Lib.hid (And.intro hnx (hu.set i (.int .i64 (un4 x0 x1 x2 x3))))
      generalize stepsF f raw idx j i = y at dz
      have h4r : 4 * j + 3 < raw.length := by omega
      have e4 := or4 x0 x1 x2 x3
      have HF := Lib.hid (And.intro hraw (And.intro hp hi))
      clear hnx hst hgj hu dr hraw hp hi i1 i2 i3 i4
      go_wp2_with fail
      refine wp_region_planT (fun w' => w'.cell? ⟨bb, bo + 4 * j, none⟩ = some (.int .u8 (iu8 x0)) ∧ w'.cell? ⟨bb, bo + (4 * j + 1), none⟩ = some (.int .u8 (iu8 x1)) ∧ w'.cell? ⟨bb, bo + (4 * j + 2), none⟩ = some (.int .u8 (iu8 x2)) ∧ w'.cell? ⟨bb, bo + (4 * j + 3), none⟩ = some (.int .u8 (iu8 x3))) [35] [(true, 0), (true, 1), (true, 2), (true, 3), (true, 4), (true, 7), (true, 8), (true, 9), (true, 10), (true, 11), (true, 16), (true, 17), (true, 18), (true, 19), (true, 20), (true, 25), (true, 26), (true, 27), (true, 28), (true, 29), (true, 5), (true, 12), (true, 21), (true, 30), (true, 6), (true, 13), (true, 14), (true, 15), (true, 22), (true, 23), (true, 24), (true, 31), (true, 32), (true, 33), (true, 34), (false, 35)] (by kernel_rfl) (by kernel_rfl) (⟨r0, r1, r2, r3⟩) ?_
      refine wpPlan_pure [0, 1, 2, 3, 4, 7, 8, 9, 10, 11, 16, 17, 18, 19, 20, 25, 26, 27, 28, 29] [(true, 5), (true, 12), (true, 21), (true, 30), (true, 6), (true, 13), (true, 14), (true, 15), (true, 22), (true, 23), (true, 24), (true, 31), (true, 32), (true, 33), (true, 34), (false, 35)] _ (by rfl) (by rfl) ?_
      dsimp only [List.filterMap, List.getElem?_cons_zero, List.getElem?_cons_succ]
      repeat (go_big_quiet_step (fail))
      refine wpQuiet_nil ?_
      refine wpPlan_takeL [5, 12, 21, 30] [(true, 6), (true, 13), (true, 14), (true, 15), (true, 22), (true, 23), (true, 24), (true, 31), (true, 32), (true, 33), (true, 34), (false, 35)] _ (by rfl) (by rfl) (⟨r0, r1, r2, r3⟩) ?_
      dsimp only [List.filterMap, List.getElem?_cons_zero, List.getElem?_cons_succ]
      (refine wpQuiet_load_cell (fun w' hw' => hw'.1) (by rfl) _ _ (by rfl) (by rfl) _ Try.underlying5 (by rfl) ?_; simp only [Act.put, List.setIfInBounds_toArray, List.set_cons_zero, List.set_cons_succ])
      (refine wpQuiet_load_cell (fun w' hw' => hw'.2.1) (by rfl) _ _ (by rfl) (by rfl) _ Try.underlying5 (by rfl) ?_; simp only [Act.put, List.setIfInBounds_toArray, List.set_cons_zero, List.set_cons_succ])
      (refine wpQuiet_load_cell (fun w' hw' => hw'.2.2.1) (by rfl) _ _ (by rfl) (by rfl) _ Try.underlying5 (by rfl) ?_; simp only [Act.put, List.setIfInBounds_toArray, List.set_cons_zero, List.set_cons_succ])
      (refine wpQuiet_load_cell (fun w' hw' => hw'.2.2.2) (by rfl) _ _ (by rfl) (by rfl) _ Try.underlying5 (by rfl) ?_; simp only [Act.put, List.setIfInBounds_toArray, List.set_cons_zero, List.set_cons_succ])
      refine wpQuiet_nil ?_
      refine wpPlan_pure [6, 13, 14, 15, 22, 23, 24, 31, 32, 33, 34] [(false, 35)] _ (by rfl) (by rfl) ?_
      dsimp only [List.filterMap, List.getElem?_cons_zero, List.getElem?_cons_succ]
      repeat (go_big_quiet_step (fail))
      refine wpQuiet_nil ?_
      refine wpPlan_forceL _ rfl ?_
      go_wp2_with fail
      refine PlanQ.out (by rfl) ?_
      refine wpPlan_tidy ?_
      go_wp2
      go_roundw
      case rel => exact ⟨j + 1, by omega, by go_num, HN.out.1.drew, HN.out.2.drewH⟩
      case measure => simp [intOf]; omega
    · obtain rfl : j = idx.length := by omega
      have HG := Lib.hid (And.intro hgj hu)
      clear hgj hu hp hi hraw
      go_wp2
      refine bodyPost_end (v := .tuple #[]) (by simp [results]) rfl ⟨rfl, HG.out.1, HG.out.2⟩
end Go.Proofs.Ytekdcjaljjlemaa

/- Four bytes of a number laid at a place of a list. Plain facts. -/
namespace Go.Proofs.Ytekdcjaljjlemaa
open Go.RowKit
def put4 (L : List UInt8) (off n : Nat) : List UInt8 := L.take off ++ (le4 n ++ L.drop (off + 4))
def put4r (L : List UInt8) (off n j : Nat) : List UInt8 := L.take off ++ ((le4 n).take j ++ L.drop (off + j))
theorem put4r_zero (L : List UInt8) (off n : Nat) : put4r L off n 0 = L := by unfold put4r; simp
theorem put4r_four (L : List UInt8) (off n : Nat) : put4r L off n 4 = put4 L off n := rfl
theorem put4r_length (L : List UInt8) (off n j : Nat) (h : off + 4 ≤ L.length) (hj : j ≤ 4) : (put4r L off n j).length = L.length := by
  unfold put4r; rw [List.length_append, List.length_append, List.length_take, List.length_take, List.length_drop, le4_length]; omega
theorem put4_length (L : List UInt8) (off n : Nat) (h : off + 4 ≤ L.length) : (put4 L off n).length = L.length := put4r_length L off n 4 h (Nat.le_refl _)
theorem put4r_set (L : List UInt8) (off n j : Nat) (h : off + 4 ≤ L.length) (hj : j < 4) (b : UInt8) (hb : b = (le4 n).getD j 0) :
    ((put4r L off n j).map u8v).toArray.setIfInBounds (off + j) (.int .u8 (iu8 b)) = ((put4r L off n (j + 1)).map u8v).toArray := by
  apply Array.ext'
  simp only [List.setIfInBounds_toArray]
  have e : Value.int .u8 (iu8 b) = u8v b := rfl
  rw [e, ← List.map_set]
  congr 1
  subst hb
  unfold put4r
  have h1 : (L.take off).length = off := by rw [List.length_take]; omega
  rw [List.set_append_right _ _ (by omega), h1, Nat.add_sub_cancel_left]
  congr 1
  have h2 : ((le4 n).take j).length = j := by rw [List.length_take, le4_length]; omega
  rw [List.set_append_right _ _ (by omega), h2, Nat.sub_self]
  have hd : L.drop (off + j) = L[off + j]'(by omega) :: L.drop (off + (j + 1)) := by
    rw [List.drop_eq_getElem_cons (by omega)]; rfl
  rw [hd, List.set_cons_zero]
  have ht : (le4 n).take (j + 1) = (le4 n).take j ++ [(le4 n).getD j 0] := by
    rw [List.take_succ_eq_append_getElem (by rw [le4_length]; omega)]
    congr 2
    simp [List.getD, show j < (le4 n).length by rw [le4_length]; omega]
  rw [ht]; simp
theorem le4_v0 (n : Nat) : (n : Int) % 256 = iu8 ((le4 n).getD 0 0) := by show _ = iu8 (UInt8.ofNat (n % 256)); rw [iu8_ofNat_mod]
theorem le4_v1 (n : Nat) : (n : Int) / 256 % 256 = iu8 ((le4 n).getD 1 0) := by show _ = iu8 (UInt8.ofNat (n / 256 % 256)); rw [iu8_ofNat_mod]; omega
theorem le4_v2 (n : Nat) : (n : Int) / 65536 % 256 = iu8 ((le4 n).getD 2 0) := by show _ = iu8 (UInt8.ofNat (n / 65536 % 256)); rw [iu8_ofNat_mod]; omega
theorem le4_v3 (n : Nat) (h : n < 4294967296) : (n : Int) / 16777216 = iu8 ((le4 n).getD 3 0) := by show _ = iu8 (UInt8.ofNat (n / 16777216 % 256)); rw [iu8_ofNat_mod]; omega
theorem u8_lit (n : Nat) (h : n < 256) : (n : Int) = iu8 (UInt8.ofNat n) := (iu8_ofNat n h).symm
end Go.Proofs.Ytekdcjaljjlemaa

/- Bytes in memory: two plain facts. No condition. -/
namespace Go.Proofs.Ytekdcjaljjlemaa
open Go.RowKit
theorem u8info : (Try.prog.info? 5).map (fun i => (i.zero, i.size, i.bytes)) = some (some (.int .u8 0), 1, 1) := by kernel_rfl
theorem u8_all (l : List UInt8) : (l.map u8v).toArray.all (·.oneCell') = true := by
  rw [List.all_toArray]
  simp [u8v, Value.oneCell']
end Go.Proofs.Ytekdcjaljjlemaa

/- A number of 128 bits as bytes: what both functions answer. Condition: its halves are from 0 on and below 2^64. -/
namespace Go.Proofs.Ytekdcjaljjlemaa
open Go.RowKit
def b8 (x k : Nat) : UInt8 := UInt8.ofNat (x / 256 ^ k % 256)
theorem le8_b8 (x : Nat) : le8 x = [b8 x 0, b8 x 1, b8 x 2, b8 x 3, b8 x 4, b8 x 5, b8 x 6, b8 x 7] := by
  unfold le8 le4 b8
  simp only [List.cons_append, List.nil_append, List.cons.injEq, and_true]
  refine ⟨?_, ?_, ?_, ?_, ?_, ?_, ?_, ?_⟩ <;> (congr 1 <;> simp only [Nat.reducePow] <;> omega)
def idb (lo hi j i : Nat) : UInt8 := if i % 8 < j then (if i < 8 then b8 lo i else b8 hi (i - 8)) else 0
def idv (lo hi j i : Nat) : Value := u8v (idb lo hi j i)
theorem idv_all (lo hi : Nat) : arr 16 (idv lo hi 8) = ((le8 lo ++ le8 hi).map u8v).toArray := by
  rw [le8_b8 lo, le8_b8 hi]
  rfl
theorem idv_succ (lo hi j : Nat) (hj : j < 8) : ((arr 16 (idv lo hi j)).setIfInBounds j (.int .u8 (iu8 (b8 lo j)))).setIfInBounds (8 + j) (.int .u8 (iu8 (b8 hi j))) = arr 16 (idv lo hi (j + 1)) := by
  rw [arr_set, arr_set]
  refine arr_congr fun i hi => ?_
  unfold idv idb
  by_cases e1 : i = 8 + j
  · rw [if_pos e1, if_pos (by omega), if_neg (by omega), e1, Nat.add_sub_cancel_left]; rfl
  · rw [if_neg e1]
    by_cases e2 : i = j
    · rw [if_pos e2, if_pos (by omega), if_pos (by omega), e2]; rfl
    · rw [if_neg e2]
      by_cases e3 : i % 8 < j
      · have e4 : i % 8 < j + 1 := by omega
        simp only [e3, e4, if_true]
      · have e4 : ¬ i % 8 < j + 1 := by omega
        simp only [e3, e4, if_false]
theorem b8_v (x k : Nat) : ((x / 256 ^ k % 256 : Nat) : Int) = iu8 (b8 x k) := by unfold b8; rw [iu8_ofNat _ (Nat.mod_lt _ (by omega))]
theorem b8_0 (x : Nat) : (x : Int) % 256 = iu8 (b8 x 0) := by rw [← b8_v]; simp
theorem b8_k (x k P : Nat) (h : P = 256 ^ k) : (x : Int) / (P : Int) % 256 = iu8 (b8 x k) := by rw [← b8_v, ← h]; simp
theorem b8_1 (x : Nat) : (x : Int) / 256 % 256 = iu8 (b8 x 1) := by have h := b8_k x 1 256 (by decide); exact h
theorem b8_2 (x : Nat) : (x : Int) / 65536 % 256 = iu8 (b8 x 2) := by have h := b8_k x 2 65536 (by decide); exact h
theorem b8_3 (x : Nat) : (x : Int) / 16777216 % 256 = iu8 (b8 x 3) := by have h := b8_k x 3 16777216 (by decide); exact h
theorem b8_4 (x : Nat) : (x : Int) / 4294967296 % 256 = iu8 (b8 x 4) := by have h := b8_k x 4 4294967296 (by decide); exact h
theorem b8_5 (x : Nat) : (x : Int) / 1099511627776 % 256 = iu8 (b8 x 5) := by have h := b8_k x 5 1099511627776 (by decide); exact h
theorem b8_6 (x : Nat) : (x : Int) / 281474976710656 % 256 = iu8 (b8 x 6) := by have h := b8_k x 6 281474976710656 (by decide); exact h
theorem b8_7 (x : Nat) : (x : Int) / 72057594037927936 % 256 = iu8 (b8 x 7) := by have h := b8_k x 7 72057594037927936 (by decide); exact h
def IdRel (w : World) (g lo hi : Nat) (v : Value) (wr : World) : Prop := ∃ j : Nat, j ≤ 8 ∧ v = .int .i64 (j : Int) ∧ Blk wr g 57 (arr 16 (idv lo hi j)) ∧ Upd g w wr
theorem size16' : (Try.prog.info? 57).map (·.size) = some 16 := by kernel_rfl
set_option maxRecDepth 100000 in
set_option maxHeartbeats 2000000 in
theorem rid_any (hi lo : Nat) (w : World) :
    Calls Try.prog 40 #[.agg #[.int .u64 (hi : Nat), .int .u64 (lo : Nat)]] w fun e w' => e = .returned (.agg (arr 16 (idv lo hi 8))) ∧ Below w.heap.size w w' := by
  go_enter Try.func40, Try.ntmps40
  go_wp2_with fail
  generalize hw3 : ((w.alloc (.cells #[.int .u64 (hi : Nat), .int .u64 (lo : Nat)] 24)).alloc _).alloc _ = w3
  have h0 : Blk w3 w.heap.size 24 #[.int .u64 (hi : Nat), .int .u64 (lo : Nat)] := by rw [← hw3]; exact ((Blk.new w _ _).alloc _).alloc _
  have h1 : Blk w3 (w.heap.size + 1) 57 (arr 16 (idv 0 0 0)) := by rw [← hw3]; exact (Blk.new' (w.alloc _) _ _ (by simp)).alloc _
  have h2 : Blk w3 (w.heap.size + 1 + 1) 57 (arr 16 (idv lo hi 0)) := by rw [← hw3]; exact Blk.new' _ _ _ (by simp)
  have hB := Lib.hid (show Below w.heap.size w w3 by rw [← hw3]; exact (((Below.refl _ _).alloc (Nat.le_refl _) _).alloc (by simp) _).alloc (by simp; omega) _)
  have dhi : w3.cell? ⟨w.heap.size, 0, none⟩ = some (.int .u64 (hi : Nat)) := h0.at_ 0 rfl
  have dlo : w3.cell? ⟨w.heap.size, 1, none⟩ = some (.int .u64 (lo : Nat)) := h0.at_ 1 rfl
  clear hw3 h0
  obtain ⟨s0, hs0⟩ : ∃ s0, s0 = w.heap.size := ⟨_, rfl⟩
  have hge : w.heap.size ≤ s0 + 1 + 1 := by omega
  have hge2 : w.heap.size ≤ s0 + 1 := by omega
  rw [← hs0] at dhi dlo h1 h2 ⊢
  clear hs0
  go_loopw [4] (fun v wr => IdRel w3 (s0 + 1 + 1) lo hi v wr) (fun v _ => 8 - (intOf v).toNat)
  case atStart => exact ⟨0, by omega, rfl, h2, Upd.refl _ _⟩
  case round =>
    obtain ⟨j, hj, rfl, hg, hu⟩ := hrel
    have ehi := (World.cell?_of_block (hu.block s0 (by omega))).trans dhi
    have elo := (World.cell?_of_block (hu.block s0 (by omega))).trans dlo
    have H1 := Lib.hid (And.intro h1 (And.intro dhi dlo))
    clear dhi dlo h1 h2
    by_cases hlt : j < 8
    · have f1 := hg.frozen j
      have f2 := hg.frozen (8 + j)
      have c1 : wr.cell? ⟨s0 + 1 + 1, j, none⟩ = some (u8v (idb lo hi j j)) := hg.at_ j (arr_at _ (by omega))
      have c2 : wr.cell? ⟨s0 + 1 + 1, 8 + j, none⟩ = some (u8v (idb lo hi j (8 + j))) := hg.at_ (8 + j) (arr_at _ (by omega))
      generalize u8v (idb lo hi j j) = y1 at c1
      generalize u8v (idb lo hi j (8 + j)) = y2 at c2
      have hs := ((hg.set_ j (.int .u8 (iu8 (b8 lo j)))).set_ (8 + j) (.int .u8 (iu8 (b8 hi j)))).sub (idv_succ lo hi j hlt)
      have HN := Lib.hid (And.intro hs ((hu.set j (.int .u8 (iu8 (b8 lo j)))).set (8 + j) (.int .u8 (iu8 (b8 hi j)))))
      clear hs hg hu
      have hcase : j = 0 ∨ j = 1 ∨ j = 2 ∨ j = 3 ∨ j = 4 ∨ j = 5 ∨ j = 6 ∨ j = 7 := by omega
      rcases hcase with rfl | rfl | rfl | rfl | rfl | rfl | rfl | rfl
      · go_wp2
        rw [b8_0, b8_0]
        exact ⟨⟨1, by omega, rfl, HN.out⟩, by simp [intOf]⟩
      · go_wp2
        rw [b8_1, b8_1]
        exact ⟨⟨2, by omega, rfl, HN.out⟩, by simp [intOf]⟩
      · go_wp2
        rw [b8_2, b8_2]
        exact ⟨⟨3, by omega, rfl, HN.out⟩, by simp [intOf]⟩
      · go_wp2
        rw [b8_3, b8_3]
        exact ⟨⟨4, by omega, rfl, HN.out⟩, by simp [intOf]⟩
      · go_wp2
        rw [b8_4, b8_4]
        exact ⟨⟨5, by omega, rfl, HN.out⟩, by simp [intOf]⟩
      · go_wp2
        rw [b8_5, b8_5]
        exact ⟨⟨6, by omega, rfl, HN.out⟩, by simp [intOf]⟩
      · go_wp2
        rw [b8_6, b8_6]
        exact ⟨⟨7, by omega, rfl, HN.out⟩, by simp [intOf]⟩
      · go_wp2
        rw [b8_7, b8_7]
        exact ⟨⟨8, by omega, rfl, HN.out⟩, by simp [intOf]⟩
    · obtain rfl : j = 8 := by omega
      have hz := H1.out.1.upd hu (show s0 + 1 ≠ s0 + 1 + 1 by omega)
      have hB2 := hB.out
      rw [idv_all] at hg
      have h16 : (le8 lo ++ le8 hi).length = 16 := rfl
      obtain ⟨l, hl⟩ : ∃ l, l = le8 lo ++ le8 hi := ⟨_, rfl⟩
      rw [← hl] at hg h16
      have HL := Lib.hid hl
      have HU := Lib.hid hu
      clear hu hj hlt H1 hl
      go_wp2_with (first
        | (show wpList _ _ _ ((⟨some 26, _, _, _, _, _⟩ : Oper) :: _) _ _; refine wpList_load_blk (o := ⟨some 26, _, _, _, _, _⟩) (hg) (by rfl) _ _ (by rfl) (by rfl) _ Try.underlying57 (by rfl) (size16') (by simp [h16]) ?_)
        | (show wpList _ _ _ ((⟨none, _, _, _, _, _⟩ : Oper) :: _) _ _; refine wpList_store_blk (o := ⟨none, _, _, _, _, _⟩) (hz) (by rfl) _ _ _ (by rfl) (by rfl) ((l.map u8v).toArray) (by rfl) (size16') (arr_size _ _) (by simp [h16]) (u8_all _) ?_; intro w5 h5 hu5; have HB5 := Lib.hid ((hB.out.upd HU.out hge).upd hu5 hge2))
        | fail)
      refine bodyPost_ret (results_cell_row (by rfl) _ _ _ _ _ _ _ (by rfl) h5 Try.underlying57 (by rfl) (size16'.trans (by simp [h16]))) rfl ⟨by rw [idv_all, HL.out], HB5.out⟩
end Go.Proofs.Ytekdcjaljjlemaa
