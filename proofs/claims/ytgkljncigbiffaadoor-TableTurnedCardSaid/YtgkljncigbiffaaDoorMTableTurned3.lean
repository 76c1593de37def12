/- A region that draws its order, taken by a plan: operations that leave the world alone are taken first wherever they may come, the others come up in one forced order. Plain facts over any program. No condition. -/
import Derived.Test.YtgkljncigbiffaaDoorMTableTurned2
import Derived.Deep.MidRow
import Derived.OrdersIn
import Derived.Test.YtgkljncigbiffaaDoorRows
namespace Go
section
variable {P : Program} {ops : Array Oper} {md : Region.Mode} {C : World → Prop} {Z : List Nat} {Q : Exit → Act → World → Prop}
/-- In state 'a', in every world of the class, the operation leaves v in its temporary, and that very world. -/
def YieldsC (P : Program) (ops : Array Oper) (C : World → Prop) (o : Oper) (v : Value) (a : Act) : Prop :=
  (Region.wanted o (yielded ops a.tmps) = true ∧ ∀ w, C w → o.quietAt P a (fun w' => w' = w) w v) ∨
  (Region.wanted o (yielded ops a.tmps) = false ∧ v = undef)
theorem YieldsC.of_same {o : Oper} {v : Value} {a a' : Act} (hy : YieldsC P ops C o v a) (he : execOp a'.eval o = execOp a.eval o)
    (hw : Region.wanted o (yielded ops a'.tmps) = Region.wanted o (yielded ops a.tmps)) : YieldsC P ops C o v a' := by
  unfold YieldsC Oper.quietAt at *
  rw [he, hw]
  exact hy
theorem YieldsC.wpOp {i : Nat} {o : Oper} {v : Value} {a : Act} (hi : ops[i]? = some o) (hy : YieldsC P ops C o v a) {K : Act → World → Prop} {w : World} (hC : C w) (h : K (a.put o.dst v) w) : wpOp P ops Q i K a w := by
  unfold Go.wpOp
  simp only [hi]
  rcases hy with ⟨hw, hv⟩ | ⟨hw, rfl⟩
  · simp only [hw, if_true]
    have h1 := hv w hC
    refine .inl ?_
    unfold Oper.quietAt at h1
    unfold Oper.wp
    generalize (execOp a.eval o).run P w = r at *
    cases r with
    | ok n w' =>
      cases n <;> simp only [Oper.quietUpon] at h1 <;> simp only [Oper.upon]
      case value u => obtain ⟨e1, e2⟩ := h1; rw [e1, e2]; exact h
      case skip => obtain ⟨e1, e2⟩ := h1; rw [e1, ← e2]; exact h
      case enter f args =>
        obtain ⟨e1, hc⟩ := h1
        rw [e1]
        exact hc.mono fun e w'' ⟨he, hw''⟩ => by subst he; rw [hw'']; exact h
    | halt x w' => simp only [Oper.quietUpon] at h1
  · simp only [hw, Bool.false_eq_true, if_false]; exact h
theorem wpOp_putC {j : Nat} {oi oj : Oper} {v : Value} (hj : ops[j]? = some oj) (hap : oi.apart ops oj = true)
    (hsi : ∀ cs b, oi.op ≠ .select cs b) (hsj : ∀ cs b, oj.op ≠ .select cs b)
    (hQ : ∀ c a a' w, a'.defers = a.defers → Q (.panic c) a' w → Q (.panic c) a w) {K : Act → World → Prop} {a : Act} {w : World}
    (hy : YieldsC P ops C oi v a) (h : wpOp P ops Q j K (a.put oi.dst v) w) :
    wpOp P ops Q j (fun a' w' => YieldsC P ops C oi v a' ∧ K (a'.put oi.dst v) w') a w := by
  obtain ⟨h1, h2, h3⟩ := Oper.apart_spec hap
  have hdef : ∀ (a : Act) (d : Option Tmp) (v : Value), (a.put d v).defers = a.defers := fun a d v => by cases d <;> rfl
  have keep : ∀ (a : Act), YieldsC P ops C oi v a → ∀ u, YieldsC P ops C oi v (a.put oj.dst u) := fun a hy u =>
    hy.of_same (execOp_put oi hsi a oj.dst u h3) (wanted_put oi a oj.dst u h3)
  have keepD : ∀ d, YieldsC P ops C oi v { a with defers := d :: a.defers } := fun d => hy.of_same rfl rfl
  unfold wpOp at *
  simp only [hj] at *
  rw [wanted_put oj a oi.dst v h1] at h
  split
  · rename_i hw
    simp only [hw, if_true] at h
    rcases h with h | ⟨hasks, hlets⟩
    case inr => exact .inr ⟨by unfold Oper.asks at *; rw [execOp_put oj hsj a oi.dst v h1] at hasks; exact hasks, hlets⟩
    refine .inl ?_
    unfold Oper.wp at *
    rw [execOp_put oj hsj a oi.dst v h1] at h
    generalize (execOp a.eval oj).run P w = r at *
    cases r with
    | ok n w' =>
      cases n <;> simp only [Oper.upon] at h ⊢
      case value u => exact ⟨keep a hy u, by rw [← Act.put_comm a v u h2]; exact h⟩
      case skip => exact ⟨keep a hy _, by rw [← Act.put_comm a v undef h2]; exact h⟩
      case defer d =>
        refine ⟨keep _ (keepD d) _, ?_⟩
        rw [← Act.put_comm _ v undef h2, ← Act.put_defers]
        exact h
      case enter f args =>
        refine Calls.mono h fun e w'' he => ?_
        cases e with
        | returned u => exact ⟨keep a hy u, by rw [← Act.put_comm a v u h2]; exact he⟩
        | panicked c => exact hQ _ _ _ _ (hdef _ _ _) he
        | outgrown => exact he
      case row row args => exact Rows.mono h fun u w'' he => ⟨keep a hy u, by rw [← Act.put_comm a v u h2]; exact he⟩
    | halt x w' =>
      cases x <;> simp only [Oper.upon] at h ⊢
      case panic u => exact hQ _ _ _ _ (hdef _ _ _) h
  · rename_i hw
    simp only [hw] at h
    exact ⟨keep a hy _, by rw [← Act.put_comm a v undef h2]; exact h⟩

/-- Whatever order is picked from here on; behind each operation but those of Z the world is of the class. -/
def wpAnyC (P : Program) (md : Region.Mode) (ops : Array Oper) (C : World → Prop) (Z : List Nat) (Q : Exit → Act → World → Prop) : Nat → Array Bool → Act → World → Prop
  | 0, listed, a, w => Region.ready md ops listed = [] ∧ Q .normal a w
  | fuel + 1, listed, a, w =>
    (Region.ready md ops listed = [] → Q .normal a w) ∧
    ∀ i ∈ Region.ready md ops listed, wpOp P ops Q i (fun a' w' => (i ∈ Z ∨ C w') ∧ wpAnyC P md ops C Z Q fuel (listed.setIfInBounds i true) a' w') a w
theorem wpAny_of_C : ∀ (fuel : Nat) (s : Array Bool) (a : Act) (w : World), wpAnyC P md ops C Z Q fuel s a w → wpAny P md ops Q fuel s a w
  | 0, _, _, _, h => h
  | fuel + 1, _, _, _, h => ⟨h.1, fun i hi => wpOp_mono (fun a' w' h' => wpAny_of_C fuel _ a' w' h'.2) (h.2 i hi)⟩
theorem wpAnyC_first {i : Nat} {oi : Oper} {v : Value} (hi : ops[i]? = some oi) (hns : Region.noSelect ops = true)
    (hQ : ∀ c a a' w, a'.defers = a.defers → Q (.panic c) a' w → Q (.panic c) a w) (hZ : ∀ z ∈ Z, Region.waitsFor md ops z i = true) :
    ∀ (fuel : Nat) (s : Array Bool) (a : Act) (w : World),
      (∀ j oj, ops[j]? = some oj → j ≠ i → s.getD j true = false → (∀ e ∈ oj.after, Region.binds md e = true → e.on ≠ i) → oi.apart ops oj = true) →
      i ∈ Region.ready md ops s → YieldsC P ops C oi v a → C w →
      wpAnyC P md ops C Z Q fuel (s.setIfInBounds i true) (a.put oi.dst v) w → wpAnyC P md ops C Z Q (fuel + 1) s a w := by
  have sel := fun (j : Nat) (o : Oper) cs b => Region.noSelect_spec hns j o cs b
  intro fuel
  induction fuel with
  | zero =>
    intro s a w _ hr hy hC H
    refine ⟨fun h => (by rw [h] at hr; cases hr), fun j hj => ?_⟩
    by_cases hji : j = i
    · subst hji; exact hy.wpOp hi hC ⟨.inr hC, H⟩
    · have := ready_mono hj hji
      rw [H.1] at this
      cases this
  | succ fuel ih =>
    intro s a w hfree hr hy hC H
    refine ⟨fun h => (by rw [h] at hr; cases hr), fun j hj => ?_⟩
    by_cases hji : j = i
    · subst hji; exact hy.wpOp hi hC ⟨.inr hC, H⟩
    · have h1 := H.2 j (ready_mono hj hji)
      obtain ⟨hjun, oj, hoj, hall⟩ := mem_ready.1 hj
      have hiun := (mem_ready.1 hr).1
      have hnot : ∀ e ∈ oj.after, Region.binds md e = true → e.on ≠ i := fun e he hb heq => by
        have h2 := hall e he hb
        rw [heq, getD_both hiun] at h2
        cases h2
      have hjZ : j ∉ Z := fun hz => by
        obtain ⟨ot, hot, e, he, hb, hon⟩ := Region.waitsFor_spec (hZ j hz)
        have : ot = oj := Option.some.inj (hot.symm.trans hoj)
        rw [this] at he
        exact hnot e he hb hon
      have h2 := wpOp_putC hoj (hfree j oj hoj hji hjun hnot) (fun cs b => sel i oi cs b hi) (fun cs b => sel j oj cs b hoj) hQ hy h1
      have hfree' : ∀ k ok, ops[k]? = some ok → k ≠ i → (s.setIfInBounds j true).getD k true = false →
          (∀ e ∈ ok.after, Region.binds md e = true → e.on ≠ i) → oi.apart ops ok = true := fun k ok hk hki hun hno => by
        refine hfree k ok hk hki ?_ hno
        by_cases hjk : j = k
        · subst hjk; exact hjun
        · rw [getD_set_ne true hjk] at hun; exact hun
      refine wpOp_mono (fun a' w' h3 => ?_) h2
      have hC' : C w' := h3.2.1.resolve_left hjZ
      refine ⟨.inr hC', ih (s.setIfInBounds j true) a' w' hfree' (ready_mono hr (Ne.symm hji)) h3.1 hC' ?_⟩
      rw [Array.setIfInBounds_comm _ _ hji]
      exact h3.2.2
/-- Operations that leave the world as it is. -/
def Op.stillB : Op → Bool
  | .load .. | .pick .. | .makeInterface .. | .nilCheck .. => true
  | o => o.valued
theorem still_run {o : Oper} (h : o.op.stillB = true) (ρ : Operand → Value) (w w' : World) (n : Next) (hr : (execOp ρ o).run P w = .ok n w') : ∃ v, n = .value v := by
  have key : ∀ (m : Sem Value), (do let x ← m; pure (Next.value x) : Sem Next).run P w = .ok n w' → ∃ v, n = .value v := by
    intro m hm
    rw [Sem.run_bind] at hm
    generalize m.run P w = r at hm
    cases r with
    | ok x w2 => simp only [Result.andThen_ok, Sem.run_pure, Result.ok.injEq] at hm; exact ⟨x, hm.1.symm⟩
    | halt x w2 => simp [Result.andThen] at hm
  by_cases hv : o.op.valued = true
  · exact valued_run hv ρ w w' n hr
  obtain ⟨dst, op, type, pos, after, guard⟩ := o
  cases op
  case load => exact key _ hr
  case makeInterface => exact key _ hr
  case nilCheck x =>
    have hno : ∀ {e : RuntimeError}, e = .nilDeref → (runtimePanic e : Sem Next).run P w ≠ .ok n w' := fun he hh => by subst he; cases hh
    have hp : ∀ y : Value, (pure (Next.value y) : Sem Next).run P w = .ok n w' → ∃ v, n = .value v := fun y hy => by rw [Sem.run_pure, Result.ok.injEq] at hy; exact ⟨_, hy.1.symm⟩
    simp only [execOp] at hr
    split at hr
    · exact absurd hr (hno rfl)
    · exact absurd hr (hno rfl)
    · exact absurd hr (hno rfl)
    · split at hr
      · exact absurd hr (hno rfl)
      · rw [Sem.run_bind] at hr
        generalize (program).run P w = r0 at hr
        cases r0 with
        | halt y w2 => simp [Result.andThen] at hr
        | ok pp w1 =>
          rw [Result.andThen_ok, Sem.run_bind] at hr
          generalize (nilAhead _ _ _ _).run P w1 = r1 at hr
          cases r1 with
          | halt y w2 => simp [Result.andThen] at hr
          | ok bb w2 =>
            rw [Result.andThen_ok] at hr
            split at hr
            · simp [Result.andThen] at hr
            · rw [Sem.run_pure, Result.ok.injEq] at hr; exact ⟨_, hr.1.symm⟩
      · exact hp _ hr
    · exact hp _ hr
  case pick c a b =>
    simp only [execOp, Sem.run_bind] at hr
    generalize (asBool (ρ c)).run P w = r at hr
    cases r with
    | ok x w2 => simp only [Result.andThen_ok, Sem.run_pure, Result.ok.injEq] at hr; exact ⟨_, hr.1.symm⟩
    | halt x w2 => simp [Result.andThen] at hr
  all_goals first
    | (simp [Op.stillB] at h; exact absurd h hv)
    | (simp [Op.stillB] at h; done)
    | (simp [Op.valued] at hv; done)
/-- Such operations, walked in a class of worlds, yield in each of them and leave it. -/
theorem yieldsC_of {o : Oper} {a : Act} {v : Value} (h : o.op.stillB = true) (hy : YieldsIn P ops C o v a) : YieldsC P ops C o v a := by
  rcases hy with ⟨h1, h2⟩ | h1
  · refine .inl ⟨h1, fun w hw => ?_⟩
    have h3 := h2 w hw
    unfold Oper.quietAt at h3 ⊢
    cases hr : (execOp a.eval o).run P w with
    | ok n w' =>
      obtain ⟨u, rfl⟩ := still_run h _ _ _ _ hr
      rw [hr] at h3
      exact h3
    | halt x w' => rw [hr] at h3; exact h3
  · exact .inr h1

/-! The plan: (true, i): i is taken first; (false, i): i is the only one that may come. -/
def Region.planB (md : Region.Mode) (ops : Array Oper) (Z : List Nat) : List (Bool × Nat) → Array Bool → Bool
  | [], s => (Region.ready md ops s).isEmpty
  | (true, i) :: r, s => (Region.ready md ops s).contains i && Region.free md ops s i && (Z.all fun z => Region.waitsFor md ops z i) && Region.planB md ops Z r (s.setIfInBounds i true)
  | (false, i) :: r, s => decide (Region.ready md ops s = [i]) && Region.planB md ops Z r (s.setIfInBounds i true)
def wpPlan (P : Program) (ops : Array Oper) (C : World → Prop) (Z : List Nat) (Q : Exit → Act → World → Prop) : List (Bool × Nat) → Act → World → Prop
  | [], a, w => Q .normal a w
  | (true, i) :: r, a, w => match ops[i]? with
    | some o => ∃ v, YieldsC P ops C o v a ∧ (C w → wpPlan P ops C Z Q r (a.put o.dst v) w)
    | none => False
  | (false, i) :: r, a, w => wpOp P ops Q i (fun a' w' => (i ∈ Z ∨ C w') ∧ wpPlan P ops C Z Q r a' w') a w
/-- Is it known, at each place of the plan where something is taken first, that the world is of the class? (No place of Z stands ahead of it.) -/
def Region.planZ (Z : List Nat) : List (Bool × Nat) → Bool → Bool
  | [], _ => true
  | (true, _) :: r, c => c && Region.planZ Z r c
  | (false, i) :: r, c => Region.planZ Z r (c && !Z.contains i)
theorem anyC_of_plan (hns : Region.noSelect ops = true) (hQ : ∀ c a a' w, a'.defers = a.defers → Q (.panic c) a' w → Q (.panic c) a w) :
    ∀ (pl : List (Bool × Nat)) (c : Bool) (s : Array Bool) (a : Act) (w : World), Region.planB md ops Z pl s = true → Region.planZ Z pl c = true → (c = true → C w) → wpPlan P ops C Z Q pl a w → wpAnyC P md ops C Z Q pl.length s a w := by
  intro pl
  induction pl with
  | nil => intro c s a w hB _ _ h; exact ⟨by simpa [Region.planB] using hB, h⟩
  | cons x r ih =>
    obtain ⟨b, i⟩ := x
    intro c s a w hB hz hC h
    cases b with
    | true =>
      simp only [Region.planB, Bool.and_eq_true] at hB
      simp only [Region.planZ, Bool.and_eq_true] at hz
      obtain ⟨⟨⟨h1, h2⟩, h3⟩, h4⟩ := hB
      have hr : i ∈ Region.ready md ops s := by simpa using h1
      obtain ⟨_, oi, hoi, _⟩ := mem_ready.1 hr
      simp only [wpPlan, hoi] at h
      obtain ⟨v, hy, hn⟩ := h
      exact wpAnyC_first hoi hns hQ (fun z hz => List.all_eq_true.1 h3 z hz) r.length s a w (Region.free_spec hoi h2) hr hy (hC hz.1) (ih c _ _ _ h4 hz.2 hC (hn (hC hz.1)))
    | false =>
      simp only [Region.planB, Bool.and_eq_true, decide_eq_true_eq] at hB
      simp only [Region.planZ] at hz
      refine ⟨fun h0 => (by rw [hB.1] at h0; cases h0), fun j hj => ?_⟩
      rw [hB.1] at hj
      have hji : j = i := by simpa using hj
      rw [hji]
      refine wpOp_mono (fun a' w' h' => ⟨h'.1, ih (c && !Z.contains i) _ a' w' hB.2 hz (fun hc => ?_) h'.2⟩) h
      simp only [Bool.and_eq_true, Bool.not_eq_true'] at hc
      refine h'.1.resolve_left fun hm => ?_
      rw [List.contains_iff_mem.2 hm] at hc
      cases hc.2
/-- **THE REGION, BY A PLAN.** -/
theorem wp_region_plan {id : Nat} {a : Act} {w : World} {l : List Oper} (C : World → Prop) (Z : List Nat) (pl : List (Bool × Nat)) (hm : P.follows .mixedOrders = true)
    (hB : (Region.noSelect l.toArray && Region.planB .any l.toArray Z pl (Array.replicate l.toArray.size false) && Region.planZ Z pl true && decide (pl.length = l.toArray.size)) = true)
    (hQ : ∀ c a a' w, a'.defers = a.defers → Q (.panic c) a' w → Q (.panic c) a w) (hC : C w.drew) (h : wpPlan P l.toArray C Z Q pl a w.drew) : (Code.region id l.toArray true).wp P Q a w := by
  simp only [Bool.and_eq_true, decide_eq_true_eq] at hB
  obtain ⟨⟨⟨h1, h2⟩, h3⟩, h4⟩ := hB
  refine wp_region_any hm ?_
  rw [← h4]
  exact wpAny_of_C _ _ _ _ (anyC_of_plan h1 hQ pl true _ a w.drew (by rw [h4]; exact h2) h3 (fun _ => hC) h)
/-- Operations that are taken first, walked as quiet ones. -/
theorem wpPlan_take {w : World} (is : List Nat) (r : List (Bool × Nat)) : ∀ (a : Act), ((is.filterMap fun i => ops[i]?).all fun o => o.op.stillB) = true → (is.all fun i => decide (i < ops.size)) = true →
    C w → wpQuiet P ops C (fun a' => wpPlan P ops C Z Q r a' w) (is.filterMap fun i => ops[i]?) a → wpPlan P ops C Z Q (is.map (fun i => (true, i)) ++ r) a w := by
  induction is with
  | nil => intro a _ _ _ h; exact h
  | cons i is ih =>
    intro a hs hlt hC h
    simp only [List.all_cons, Bool.and_eq_true, decide_eq_true_eq] at hlt
    have hi : ops[i]? = some ops[i] := Array.getElem?_eq_getElem hlt.1
    simp only [List.filterMap_cons, hi, List.all_cons, Bool.and_eq_true] at hs h
    have hq : qOp P ops C i (wpQuiet P ops C (fun a' => wpPlan P ops C Z Q r a' w) (is.filterMap fun i => ops[i]?)) a := by unfold qOp; simp only [hi]; exact h
    obtain ⟨v, hy, hK⟩ := yieldsIn_of_qOp hi hq
    simp only [List.map_cons, List.cons_append, wpPlan, hi]
    exact ⟨v, yieldsC_of hs.1 hy, fun _ => ih _ hs.2 hlt.2 hC hK⟩
theorem wpPlan_takeL {l : List Oper} {w : World} (is : List Nat) (r : List (Bool × Nat)) (a : Act) (hs : ((is.filterMap fun i => l[i]?).all fun o => o.op.stillB) = true) (hlt : (is.all fun i => decide (i < l.length)) = true)
    (hC : C w) (h : wpQuiet P l.toArray C (fun a' => wpPlan P l.toArray C Z Q r a' w) (is.filterMap fun i => l[i]?) a) : wpPlan P l.toArray C Z Q (is.map (fun i => (true, i)) ++ r) a w := by
  have e : (is.filterMap fun i => l.toArray[i]?) = is.filterMap fun i => l[i]? := by congr 1; funext i; exact List.getElem?_toArray ..
  exact wpPlan_take is r a (by rw [e]; exact hs) (by simpa using hlt) hC (by rw [e]; exact h)
/-- .. operations that hang on no world. -/
theorem wpPlan_pure {l : List Oper} {w : World} (is : List Nat) (r : List (Bool × Nat)) : ∀ (a : Act), ((is.filterMap fun i => l[i]?).all fun o => o.op.stillB) = true → (is.all fun i => decide (i < l.length)) = true →
    wpQuiet P l.toArray (fun _ => True) (fun a' => wpPlan P l.toArray C Z Q r a' w) (is.filterMap fun i => l[i]?) a → wpPlan P l.toArray C Z Q (is.map (fun i => (true, i)) ++ r) a w := by
  induction is with
  | nil => intro a _ _ h; exact h
  | cons i is ih =>
    intro a hs hlt h
    simp only [List.all_cons, Bool.and_eq_true, decide_eq_true_eq] at hlt
    have hi : l[i]? = some l[i] := List.getElem?_eq_getElem hlt.1
    have hi' : l.toArray[i]? = some l[i] := by rw [List.getElem?_toArray]; exact hi
    simp only [List.filterMap_cons, hi, List.all_cons, Bool.and_eq_true] at hs h
    have hq : qOp P l.toArray (fun _ => True) i (wpQuiet P l.toArray (fun _ => True) (fun a' => wpPlan P l.toArray C Z Q r a' w) (is.filterMap fun i => l[i]?)) a := by unfold qOp; simp only [hi']; exact h
    obtain ⟨v, hy, hK⟩ := yieldsIn_of_qOp hi' hq
    have hy' := yieldsC_of hs.1 hy
    simp only [List.map_cons, List.cons_append, wpPlan, hi']
    refine ⟨v, ?_, fun _ => ih _ hs.2 hlt.2 hK⟩
    rcases hy' with ⟨h1, h2⟩ | h1
    · exact .inl ⟨h1, fun w _ => h2 w trivial⟩
    · exact .inr h1
/-- What is asked behind an operation that had to come. -/
def PlanQ (P : Program) (ops : Array Oper) (C : World → Prop) (Z : List Nat) (Q : Exit → Act → World → Prop) (i : Nat) (r : List (Bool × Nat)) : Exit → Act → World → Prop
  | .normal, a, w => (i ∈ Z ∨ C w) ∧ wpPlan P ops C Z Q r a w
  | e, a, w => Q e a w
theorem wpPlan_force {a : Act} {w : World} {i : Nat} {r : List (Bool × Nat)} (o : Oper) (ho : ops[i]? = some o) (h : wpList P ops (PlanQ P ops C Z Q i r) [o] a w) : wpPlan P ops C Z Q ((false, i) :: r) a w := by
  simp only [wpPlan]
  unfold wpOp
  simp only [ho]
  unfold wpList at h
  have hmono : ∀ {a : Act} {w : World}, o.wp P a w (wpList P ops (PlanQ P ops C Z Q i r) []) (PlanQ P ops C Z Q i r) → o.wp P a w (fun a' w' => (i ∈ Z ∨ C w') ∧ wpPlan P ops C Z Q r a' w') Q := by
    intro a w h
    unfold Oper.wp at h ⊢
    generalize (execOp a.eval o).run P w = rr at *
    cases rr with
    | ok n w' =>
      cases n <;> simp only [Oper.upon] at h ⊢
      case value u => exact h
      case skip => exact h
      case defer d => exact h
      case enter f args =>
        refine Calls.mono h fun e w'' he => ?_
        cases e <;> exact he
      case row row args => exact Rows.mono h fun u w'' he => he
    | halt x w' => cases x <;> simp only [Oper.upon] at h ⊢; exact h
  split
  · rename_i hw
    rw [if_pos hw] at h
    rcases h with h | ⟨h1, h2⟩
    · exact .inl (hmono h)
    · exact .inr ⟨h1, h2⟩
  · rename_i hw
    rw [if_neg hw] at h
    exact h
theorem wpPlan_forceL {l : List Oper} {a : Act} {w : World} {i : Nat} {r : List (Bool × Nat)} (o : Oper) (ho : l[i]? = some o) (h : wpList P l.toArray (PlanQ P l.toArray C Z Q i r) [o] a w) : wpPlan P l.toArray C Z Q ((false, i) :: r) a w :=
  wpPlan_force o (by rw [List.getElem?_toArray]; exact ho) h
theorem wpPlan_nil {a : Act} {w : World} (h : Q .normal a w) : wpPlan P ops C Z Q [] a w := h
theorem PlanQ.in_ {a : Act} {w : World} {i : Nat} {r : List (Bool × Nat)} (hC : C w) (h : wpPlan P ops C Z Q r a w) : PlanQ P ops C Z Q i r .normal a w := ⟨.inr hC, h⟩
theorem PlanQ.out {a : Act} {w : World} {i : Nat} {r : List (Bool × Nat)} (hz : Z.contains i = true) (h : wpPlan P ops C Z Q r a w) : PlanQ P ops C Z Q i r .normal a w := ⟨.inl (by simpa using hz), h⟩
theorem run_isAgg_cell {t : TypeId} {d : TypeDesc} (hu : P.underlying t = some d) (hd : d.isRow = false) (w : World) : (isAgg t).run P w = .ok false w := by
  unfold isAgg
  cases d <;> first | (simp [TypeDesc.isRow] at hd; done) | simp [run_underlying hu]
/-- A load of one cell that every world of the class has. -/
theorem wpQuiet_load_cell {R : Act → Prop} {rest : List Oper} {o : Oper} {a : Act} {b off : Nat} {v : Value} (hb : ∀ w, C w → w.cell? ⟨b, off, none⟩ = some v) (hgd : o.guard = none) (ty : TypeId) (x : Operand) (ho : o.op = .load ty x)
    (hx : a.eval x = .pointer (some ⟨b, off, none⟩)) (d : TypeDesc) (hu : P.underlying ty = some d) (hd : d.isRow = false)
    (h : wpQuiet P ops C R rest (a.put o.dst v)) : wpQuiet P ops C R (o :: rest) a := by
  refine wpQuiet_step fun K hK => ?_
  rw [if_pos (by simp [Region.wanted, hgd])]
  refine ⟨v, fun w hw => ?_, hK _ h⟩
  have hc := hb w hw
  unfold Oper.quietAt execOp
  simp only [ho, hx, Instr.loadAt, Instr.sureAddr, Sem.run_bind, Sem.run_pure, Result.andThen_ok, loadVar, run_isAgg_cell hu hd w, Bool.false_eq_true, if_false]
  simp [hc, Oper.quietUpon]
end
end Go

/- A region that draws its order, by a plan, inside a fence (the round of a loop over an iterator, too): operations that call nothing. Plain facts over any program. No condition. -/
namespace Go
section
variable {P : Program} {ops : Array Oper} {md : Region.Mode} {F : Fence} {n : Nat}
/-- An operation that yields a value or nothing, and calls nothing. -/
def Op.calmB : Op → Bool
  | .store .. | .entryStore .. | .mapUpdate .. | .insert .. => true
  | .lookup .. | .mapEntry .. | .alloc _ | .box .. | .build .. | .buildSlice .. | .makeMap .. | .makeSlice .. | .sliceToArrayPointer .. => true
  | .call _ => false
  | o => o.stillB
theorem calm_about {o : Oper} (h : o.op.calmB = true) (w : World) (ρ : Operand → Value) : o.about P w ρ = none := by
  unfold Oper.about
  cases ho : o.op <;> first | rfl | skip
  rw [ho] at h
  simp [Op.calmB] at h
theorem calm_semAt {o : Oper} (h : o.op.calmB = true) (ρ : Operand → Value) (ro : Option Nat) : Oper.semAt ro ρ o = execOp ρ o :=
  Oper.semAt_eq ro ρ o fun c hc => by rw [hc] at h; simp [Op.calmB, Op.stillB, Op.valued] at h
theorem calm_run {o : Oper} (h : o.op.calmB = true) (ρ : Operand → Value) (w w' : World) (x : Next) (hr : (execOp ρ o).run P w = .ok x w') : (∃ v, x = .value v) ∨ x = .skip := by
  by_cases hs : o.op.stillB = true
  · exact .inl (still_run hs ρ w w' x hr)
  · obtain ⟨dst, op, type, pos, after, guard⟩ := o
    have one : ∀ m : Sem Value, (do let x ← m; pure (Next.value x) : Sem Next).run P w = .ok x w' → (∃ v, x = .value v) ∨ x = .skip := fun m hm => by
      rw [Sem.run_bind] at hm
      generalize m.run P w = r at hm
      cases r with
      | ok y w2 => simp only [Result.andThen_ok, Sem.run_pure, Result.ok.injEq] at hm; exact .inl ⟨y, hm.1.symm⟩
      | halt y w2 => simp [Result.andThen] at hm
    have none' : ∀ m : Sem Unit, (do m; pure Next.skip : Sem Next).run P w = .ok x w' → (∃ v, x = .value v) ∨ x = .skip := fun m hm => by
      rw [Sem.run_bind] at hm
      generalize m.run P w = r at hm
      cases r with
      | ok y w2 => simp only [Result.andThen_ok, Sem.run_pure, Result.ok.injEq] at hm; exact .inr hm.1.symm
      | halt y w2 => simp [Result.andThen] at hm
    cases op
    all_goals first
      | exact absurd h hs
      | exact one _ hr
      | exact none' _ hr
      | (simp [Op.calmB] at h; done)
/-- The same ends but the machine's outgrowing. -/
def strict (Q : Exit → Act → World → Prop) : Exit → Act → World → Prop
  | .outgrown, _, _ => False
  | e, a, w => Q e a w
@[go_sem] theorem strict_normal (Q : Exit → Act → World → Prop) (a : Act) (w : World) : strict Q .normal a w = Q .normal a w := rfl
theorem opIn_of_op {Q : Exit → Act → World → Prop} {i : Nat} {K K' : Act → World → Prop} {a : Act} {w : World} (hc : (ops.all fun o => o.op.calmB) = true) (hk : ∀ a w, K a w → K' a w)
    (h : wpOp P ops (strict Q) i K a w) : wpOpIn F n P ops Q i K' a w := by
  unfold wpOp at h
  unfold wpOpIn
  cases ho : ops[i]? with
  | none => rw [ho] at h; exact hk _ _ h
  | some o =>
    rw [ho] at h
    have hco : o.op.calmB = true := by
      have := Array.all_eq_true'.1 hc o (Array.mem_of_getElem? ho)
      simpa using this
    simp only at h ⊢
    split
    · rename_i hw
      rw [if_pos hw] at h
      have hlet : ¬ LetsOut (strict Q) := fun ⟨_, _, hq⟩ => hq
      have h1 := h.resolve_right fun hh => hlet hh.2
      unfold Oper.wp at h1
      unfold Oper.wpIn
      refine ⟨fun f hf => (by rw [calm_about hco] at hf; cases hf), ?_⟩
      rw [calm_semAt hco]
      cases hr : (execOp a.eval o).run P w with
      | ok x w' =>
        rw [hr] at h1
        rcases calm_run hco _ _ _ _ hr with ⟨v, rfl⟩ | rfl
        · exact hk _ _ h1
        · exact hk _ _ h1
      | halt x w' =>
        rw [hr] at h1
        cases x <;> first | exact h1 | exact h1.elim
    · rename_i hw
      rw [if_neg hw] at h
      exact ⟨fun f hf => (by rw [calm_about hco] at hf; cases hf), hk _ _ h⟩
/-- The plain end alone. -/
def tidy (Q : Exit → Act → World → Prop) : Exit → Act → World → Prop
  | .normal, a, w => Q .normal a w
  | _, _, _ => False
theorem tidy_le (Q : Exit → Act → World → Prop) (e : Exit) (a : Act) (w : World) (h : tidy Q e a w) : Q e a w := by
  cases e <;> first | exact h | exact h.elim
@[go_sem] theorem tidy_normal (Q : Exit → Act → World → Prop) (a : Act) (w : World) : tidy Q .normal a w = Q .normal a w := rfl
theorem wpPlan_tidy {C : World → Prop} {Z : List Nat} {Q : Exit → Act → World → Prop} {a : Act} {w : World} (h : Q .normal a w) : wpPlan P ops C Z (tidy Q) [] a w := h
/-- **THE REGION, BY A PLAN, where it neither panics nor outgrows the machine.** -/
theorem wp_region_planT {id : Nat} {a : Act} {w : World} {l : List Oper} {Q : Exit → Act → World → Prop} (C : World → Prop) (Z : List Nat) (pl : List (Bool × Nat)) (hm : P.follows .mixedOrders = true)
    (hB : (Region.noSelect l.toArray && Region.planB .any l.toArray Z pl (Array.replicate l.toArray.size false) && Region.planZ Z pl true && decide (pl.length = l.toArray.size)) = true)
    (hC : C w.drew) (h : wpPlan P l.toArray C Z (tidy Q) pl a w.drew) : (Code.region id l.toArray true).wp P Q a w :=
  wp_mono (wp_region_plan C Z pl hm hB (fun _ _ _ _ _ q => q.elim) hC h) (tidy_le Q)
end
end Go

/- The first 16 bytes of SHA-256, as plain Lean functions over UInt32 and lists of bytes, with no program in sight. No condition. -/
namespace Sha

structure St where
  a : UInt32
  b : UInt32
  c : UInt32
  d : UInt32
  e : UInt32
  f : UInt32
  g : UInt32
  h : UInt32
  deriving DecidableEq

def rotr (x : UInt32) (n : Nat) : UInt32 := (x >>> UInt32.ofNat n) ||| (x <<< UInt32.ofNat (32 - n))
def s0 (x : UInt32) : UInt32 := rotr x 7 ^^^ rotr x 18 ^^^ (x >>> 3)
def s1 (x : UInt32) : UInt32 := rotr x 17 ^^^ rotr x 19 ^^^ (x >>> 10)
/-- the next word, the words so far standing in a list, the newest first -/
def next (l : List UInt32) : UInt32 := s1 (l.getD 1 0) + l.getD 6 0 + s0 (l.getD 14 0) + l.getD 15 0
def step (m : Nat → UInt32) (t : Nat) (l : List UInt32) : List UInt32 := (if t < 16 then m t else next l) :: l
def ws (m : Nat → UInt32) : Nat → List UInt32
  | 0 => []
  | t + 1 => step m t (ws m t)
/-- word number t -/
def wd (m : Nat → UInt32) (t : Nat) : UInt32 := (ws m (t + 1)).getD 0 0

theorem ws_get (m : Nat → UInt32) : ∀ (t i : Nat), i < t → (ws m t).getD (t - 1 - i) 0 = wd m i
  | 0, i, h => by omega
  | t + 1, i, h => by
    by_cases e : i = t
    · subst e
      simp [wd]
    · have := ws_get m t i (by omega)
      have e2 : t + 1 - 1 - i = (t - 1 - i) + 1 := by omega
      rw [e2]
      simp only [ws, step, List.getD_cons_succ]
      exact this
theorem wd_lo (m : Nat → UInt32) {t : Nat} (h : t < 16) : wd m t = m t := by simp [wd, ws, step, h]
theorem wd_hi (m : Nat → UInt32) {t : Nat} (h : 16 ≤ t) : wd m t = s1 (wd m (t - 2)) + wd m (t - 7) + s0 (wd m (t - 15)) + wd m (t - 16) := by
  have h1 := ws_get m t (t - 2) (by omega)
  have h2 := ws_get m t (t - 7) (by omega)
  have h3 := ws_get m t (t - 15) (by omega)
  have h4 := ws_get m t (t - 16) (by omega)
  rw [show t - 1 - (t - 2) = 1 by omega] at h1
  rw [show t - 1 - (t - 7) = 6 by omega] at h2
  rw [show t - 1 - (t - 15) = 14 by omega] at h3
  rw [show t - 1 - (t - 16) = 15 by omega] at h4
  rw [← h1, ← h2, ← h3, ← h4]
  simp [wd, ws, step, next, show ¬ t < 16 by omega]

def t1 (k w : UInt32) (s : St) : UInt32 := s.h + (rotr s.e 6 ^^^ rotr s.e 11 ^^^ rotr s.e 25) + ((s.e &&& s.f) ^^^ (~~~s.e &&& s.g)) + k + w
def t2 (s : St) : UInt32 := (rotr s.a 2 ^^^ rotr s.a 13 ^^^ rotr s.a 22) + ((s.a &&& s.b) ^^^ (s.a &&& s.c) ^^^ (s.b &&& s.c))
def round (k w : UInt32) (s : St) : St := ⟨t1 k w s + t2 s, s.a, s.b, s.c, s.d + t1 k w s, s.e, s.f, s.g⟩

def kl : List UInt32 := [
  0x428a2f98, 0x71374491, 0xb5c0fbcf, 0xe9b5dba5, 0x3956c25b, 0x59f111f1, 0x923f82a4, 0xab1c5ed5,
  0xd807aa98, 0x12835b01, 0x243185be, 0x550c7dc3, 0x72be5d74, 0x80deb1fe, 0x9bdc06a7, 0xc19bf174,
  0xe49b69c1, 0xefbe4786, 0x0fc19dc6, 0x240ca1cc, 0x2de92c6f, 0x4a7484aa, 0x5cb0a9dc, 0x76f988da,
  0x983e5152, 0xa831c66d, 0xb00327c8, 0xbf597fc7, 0xc6e00bf3, 0xd5a79147, 0x06ca6351, 0x14292967,
  0x27b70a85, 0x2e1b2138, 0x4d2c6dfc, 0x53380d13, 0x650a7354, 0x766a0abb, 0x81c2c92e, 0x92722c85,
  0xa2bfe8a1, 0xa81a664b, 0xc24b8b70, 0xc76c51a3, 0xd192e819, 0xd6990624, 0xf40e3585, 0x106aa070,
  0x19a4c116, 0x1e376c08, 0x2748774c, 0x34b0bcb5, 0x391c0cb3, 0x4ed8aa4a, 0x5b9cca4f, 0x682e6ff3,
  0x748f82ee, 0x78a5636f, 0x84c87814, 0x8cc70208, 0x90befffa, 0xa4506ceb, 0xbef9a3f7, 0xc67178f2]
def kt (t : Nat) : UInt32 := kl.getD t 0
def init : St := ⟨0x6a09e667, 0xbb67ae85, 0x3c6ef372, 0xa54ff53a, 0x510e527f, 0x9b05688c, 0x1f83d9ab, 0x5be0cd19⟩

/-- behind t rounds -/
def rounds (m : Nat → UInt32) (s : St) : Nat → St
  | 0 => s
  | t + 1 => round (kt t) (wd m t) (rounds m s t)
def add (s x : St) : St := ⟨s.a + x.a, s.b + x.b, s.c + x.c, s.d + x.d, s.e + x.e, s.f + x.f, s.g + x.g, s.h + x.h⟩
def be (a b c d : UInt8) : UInt32 := (a.toUInt32 <<< 24) ||| (b.toUInt32 <<< 16) ||| (c.toUInt32 <<< 8) ||| d.toUInt32
/-- word number t of bytes, from a place on -/
def word (l : List UInt8) (at_ t : Nat) : UInt32 := be (l.getD (at_ + 4 * t) 0) (l.getD (at_ + 4 * t + 1) 0) (l.getD (at_ + 4 * t + 2) 0) (l.getD (at_ + 4 * t + 3) 0)
/-- a block mixed in: the 64 bytes from a place on -/
def blk (s : St) (l : List UInt8) (at_ : Nat) : St := add s (rounds (word l at_) s 64)
/-- n blocks from a place on -/
def blks (l : List UInt8) (s : St) : Nat → St
  | 0 => s
  | n + 1 => blk (blks l s n) l (64 * n)

/-- the first k bytes of a word -/
def part (l : List UInt8) (at_ t : Nat) : Nat → UInt32
  | 0 => 0
  | k + 1 => (part l at_ t k <<< 8) ||| (l.getD (at_ + 4 * t + k) 0).toUInt32
theorem word_drop (l : List UInt8) (k at_ t : Nat) : word (l.drop k) at_ t = word l (k + at_) t := by
  simp [word, List.getD_eq_getElem?_getD, List.getElem?_drop, Nat.add_assoc]
theorem blk_drop (s : St) (l : List UInt8) (k at_ : Nat) : blk s (l.drop k) at_ = blk s l (k + at_) := by
  have : word (l.drop k) at_ = word l (k + at_) := funext (word_drop l k at_)
  rw [blk, blk, this]

def get (s : St) : Nat → UInt32
  | 0 => s.a
  | 1 => s.b
  | 2 => s.c
  | 3 => s.d
  | 4 => s.e
  | 5 => s.f
  | 6 => s.g
  | _ => s.h
def byte (x : UInt32) (i : Nat) : UInt8 := UInt8.ofNat (x.toNat / 2 ^ (24 - 8 * i) % 256)
def zeros (n : Nat) : Nat := (119 - n % 64) % 64
/-- a number's eight bytes, the highest first -/
def eight (n : Nat) : List UInt8 := (List.range 8).map fun k => UInt8.ofNat (n / 2 ^ (56 - 8 * k) % 256)
theorem eight_length (n : Nat) : (eight n).length = 8 := by simp [eight]
theorem eight_take (n k : Nat) (h : k < 8) : (eight n).take (k + 1) = (eight n).take k ++ [UInt8.ofNat (n / 2 ^ (56 - 8 * k) % 256)] := by
  rw [List.take_succ_eq_append_getElem (by rw [eight_length]; exact h)]
  simp [eight]
def tail (n : Nat) : List UInt8 := 128 :: (List.replicate (zeros n) 0 ++ eight (n * 8))
def pad (l : List UInt8) : List UInt8 := l ++ tail l.length
/-- byte number k of what comes out -/
def outAt (s : St) (k : Nat) : UInt8 := byte (get s (k / 4)) (k % 4)
def out (s : St) : List UInt8 := (List.range 16).map (outAt s)
def sum (l : List UInt8) : List UInt8 := out (blks (pad l) init ((pad l).length / 64))

theorem sum_length (l : List UInt8) : (sum l).length = 16 := by simp [sum, out]
theorem zeros_add (n t : Nat) : zeros (n + 64 * t) = zeros n := by unfold zeros; rw [Nat.add_mul_mod_self_left]
theorem zeros_not {n i : Nat} (hn : n < 64) (h : i < zeros n) : (n + 1 + i) % 64 ≠ 56 := by
  unfold zeros at h
  have : n % 64 = n := Nat.mod_eq_of_lt hn
  rw [this] at h
  omega
theorem zeros_is {n : Nat} (hn : n < 64) : (n + 1 + zeros n) % 64 = 56 := by
  unfold zeros
  have : n % 64 = n := Nat.mod_eq_of_lt hn
  rw [this]
  omega
theorem zeros_lt (n : Nat) : zeros n < 64 := Nat.mod_lt _ (by omega)
theorem tail_length (n : Nat) : (tail n).length = zeros n + 9 := by simp [tail, eight_length]
theorem pad_length (l : List UInt8) : (pad l).length = l.length + zeros l.length + 9 := by simp [pad, tail_length]; omega
theorem pad_mod (l : List UInt8) : (pad l).length % 64 = 0 := by rw [pad_length]; unfold zeros; omega


theorem ws_congr {m m' : Nat → UInt32} (h : ∀ t, t < 16 → m t = m' t) : ∀ t, ws m t = ws m' t
  | 0 => rfl
  | t + 1 => by
    simp only [ws, step, ws_congr h t]
    by_cases e : t < 16
    · rw [if_pos e, if_pos e, h t e]
    · rw [if_neg e, if_neg e]
theorem rounds_congr {m m' : Nat → UInt32} (h : ∀ t, t < 16 → m t = m' t) (s : St) : ∀ t, rounds m s t = rounds m' s t
  | 0 => rfl
  | t + 1 => by
    have e : wd m t = wd m' t := by unfold wd; rw [ws_congr h]
    simp only [rounds, e, rounds_congr h s t]
theorem word_append (l x : List UInt8) (at_ t : Nat) (h : at_ + 4 * t + 4 ≤ l.length) : word (l ++ x) at_ t = word l at_ t := by
  have e : ∀ i, i < l.length → (l ++ x).getD i 0 = l.getD i 0 := fun i hi => by
    rw [List.getD_eq_getElem?_getD, List.getD_eq_getElem?_getD, List.getElem?_append_left hi]
  unfold word
  rw [e _ (by omega), e _ (by omega), e _ (by omega), e _ (by omega)]
theorem blk_append (s : St) (l x : List UInt8) (at_ : Nat) (h : at_ + 64 ≤ l.length) : blk s (l ++ x) at_ = blk s l at_ := by
  unfold blk
  rw [rounds_congr (fun t ht => word_append l x at_ t (by omega)) s 64]
theorem blks_append (l x : List UInt8) (s : St) : ∀ n, 64 * n ≤ l.length → blks (l ++ x) s n = blks l s n
  | 0, _ => rfl
  | n + 1, h => by
    simp only [blks, blks_append l x s n (by omega)]
    exact blk_append _ _ _ _ (by omega)
end Sha

/- The functions that turn a word right, and the tables of constants, answer what the plain functions say. Condition: the count is from 1 to 31. -/
namespace Go.Proofs.YtgkljncigbiffaaDoor
open Go.RowKit
theorem u64_and31 (n : Nat) (h1 : 1 ≤ n) (h2 : n ≤ 31) : bits .and .u64 (IntKind.u64.wrap (-(n : Int))) 31 = ((32 - n : Nat) : Int) := by
  have e : IntKind.u64.wrap (-(n : Int)) = ((18446744073709551616 - n : Nat) : Int) := by
    have : IntKind.u64.wrap (-(n : Int)) = (-(n : Int)) % 18446744073709551616 := by simp [IntKind.wrap, IntKind.bits, IntKind.signed]
    rw [this]; omega
  rw [e]
  have := u64_and_nat (18446744073709551616 - n) 31 (by omega) (by omega)
  have e2 : (18446744073709551616 - n) &&& 31 = 32 - n := by
    have := Nat.and_two_pow_sub_one_eq_mod (18446744073709551616 - n) 5
    simp only [Nat.reducePow, Nat.reduceSub] at this
    rw [this]; omega
  rw [e2] at this
  exact this
set_option maxHeartbeats 400000 in
theorem rot_any (x: UInt32) (n : Int) (h1 : 1 ≤ n) (h2 : n ≤ 31) (w : World) :
    Calls Tryd.prog 161 #[.int .u32 (iu32 x), .int .i64 (-n)] w fun e w' => e = .returned (.int .u32 (iu32 (Sha.rotr x n.toNat))) ∧ w = w' := by
  obtain ⟨n, rfl⟩ := Int.eq_ofNat_of_zero_le (show 0 ≤ n by omega)
  have e1 := u32_shr_w x n (by omega)
  have e2 := u32_shl_w x (32 - n) (by omega)
  have e3 : (32 - (n : Int)).toNat = 32 - n := by omega
  have e5 : 32 - (32 - n) = n := by omega
  have e6 : (32 : Int) - ((32 - n : Nat) : Int) = (n : Int) := by omega
  have e4 := u64_and31 n (by omega) (by omega)
  go_enter Tryd.func161, Tryd.ntmps161
  go_wp2
  go_ret
  exact ⟨ret_int (by rw [UInt32.or_comm]; rfl), rfl⟩
set_option maxHeartbeats 400000 in
theorem turned_any (x: UInt32) (n : Int) (h1 : 1 ≤ n) (h2 : n ≤ 31) (w : World) :
    Calls Tryd.prog 158 #[.int .u32 (iu32 x), .int .i64 n] w fun e w' => e = .returned (.int .u32 (iu32 (Sha.rotr x n.toNat))) ∧ w = w' := by
  go_enter Tryd.func158, Tryd.ntmps158
  go_wp2_with fail
  refine (rot_any x n h1 h2 _).mono ?_
  rintro e w' ⟨rfl, rfl⟩
  go_wp2
  go_ret
  exact ⟨rfl, rfl⟩
end Go.Proofs.YtgkljncigbiffaaDoor

/- What the blocks hold in which both texts mix 64 bytes in: plain facts on worlds. No condition. -/
namespace Go.Proofs.YtgkljncigbiffaaDoor
open Go.RowKit
def wcell (m : Nat → UInt32) (t i : Nat) : Value := .int .u32 (if i < t then iu32 (Sha.wd m i) else 0)
def zero64 : Array Value := arr 64 fun _ => .int .u32 0
def zero8 : Array Value := arr 8 fun _ => .int .u32 0
def karr : Array Value := arr 64 fun i => .int .u32 (iu32 (Sha.kt i))
def st8 (s : Sha.St) : Array Value := #[.int .u32 (iu32 s.a), .int .u32 (iu32 s.b), .int .u32 (iu32 s.c), .int .u32 (iu32 s.d), .int .u32 (iu32 s.e), .int .u32 (iu32 s.f), .int .u32 (iu32 s.g), .int .u32 (iu32 s.h)]
theorem st8_arr (s : Sha.St) : st8 s = arr 8 fun i => .int .u32 (iu32 (Sha.get s i)) := rfl
/-- The eight words, of which the first t have been added to. -/
def sum8 (s x : Sha.St) (t : Nat) : Array Value := arr 8 fun i => .int .u32 (iu32 (if i < t then Sha.get s i + Sha.get x i else Sha.get s i))
theorem sum8_zero (s x : Sha.St) : st8 s = sum8 s x 0 := by rw [st8_arr]; exact arr_congr fun i _ => by simp
theorem sum8_get (s x : Sha.St) (t : Nat) (h : t < 8) : (sum8 s x t)[t]? = some (.int .u32 (iu32 (Sha.get s t))) := by rw [sum8, arr_at _ h]; simp
theorem st8_get (x : Sha.St) (t : Nat) (h : t < 8) : (st8 x)[t]? = some (.int .u32 (iu32 (Sha.get x t))) := by rw [st8_arr, arr_at _ h]
theorem sum8_set (s x : Sha.St) (t : Nat) : (sum8 s x t).setIfInBounds t (.int .u32 (iu32 (Sha.get s t + Sha.get x t))) = sum8 s x (t + 1) := by
  unfold sum8
  rw [arr_set]
  refine arr_congr fun i _ => ?_
  by_cases e : i = t
  · subst e; simp
  · rw [if_neg e]
    by_cases e2 : i < t
    · rw [if_pos e2, if_pos (by omega)]
    · rw [if_neg e2, if_neg (by omega)]
theorem sum8_all (s x : Sha.St) : sum8 s x 8 = st8 (Sha.add s x) := by
  rw [st8_arr]
  refine arr_congr fun i hi => ?_
  rw [if_pos hi]
  match i, hi with
  | 0, _ => rfl
  | 1, _ => rfl
  | 2, _ => rfl
  | 3, _ => rfl
  | 4, _ => rfl
  | 5, _ => rfl
  | 6, _ => rfl
  | 7, _ => rfl
theorem st8_size (s : Sha.St) : (st8 s).size = 8 := rfl
theorem karr_size : karr.size = 64 := arr_size _ _
theorem zero8_size : zero8.size = 8 := arr_size _ _
theorem zero64_size : zero64.size = 64 := arr_size _ _
theorem st8_one (s : Sha.St) : (st8 s).all (·.oneCell') = true := by simp [st8, Value.oneCell']
theorem size8 : (Tryd.prog.info? 221).map (·.size) = some 8 := by kernel_rfl
theorem alloc64 (w : World) : (zeroValue 222).run Tryd.prog w = .ok (.agg zero64) w := by
  have h : (Tryd.prog.info? 222).map (fun i => (i.zero, i.size)) = some (some (.agg zero64), 64) := by kernel_rfl
  exact (zero_of_info h).1 w
/-- What the function's own blocks hold: the words, the constants, the result's place, the schedule. -/
structure BInv (T : TypeId) (w0 wr : World) (hs : Sha.St) (m : Nat → UInt32) (t : Nat) : Prop where
  ww : Blk wr (w0.heap.size + 1 + 1 + 1) 222 (arr 64 (wcell m t))
  hh : Blk wr w0.heap.size T (st8 hs)
  kk : Blk wr (w0.heap.size + 1) 222 karr
  zz : Blk wr (w0.heap.size + 1 + 1) T zero8
  bel : Below w0.heap.size w0 wr
theorem BInv.drewN {T : TypeId} {w0 wr : World} {hs : Sha.St} {m : Nat → UInt32} {t : Nat} (h : BInv T w0 wr hs m t) (k : Nat) : BInv T w0 (wr.drewN k) hs m t :=
  ⟨h.ww, h.hh, h.kk, h.zz, ⟨h.bel.os, h.bel.tape, h.bel.output, h.bel.size, h.bel.block⟩⟩
theorem BInv.store {T : TypeId} {w0 wr : World} {hs : Sha.St} {m : Nat → UInt32} {t : Nat} (h : BInv T w0 wr hs m t) (x : UInt32) (hx : Sha.wd m t = x) :
    BInv T w0 (wr.setCell ⟨w0.heap.size + 1 + 1 + 1, t, none⟩ (.int .u32 (iu32 x))).drew hs m (t + 1) := by
  refine ⟨?_, h.hh.off (by omega) _, h.kk.off (by omega) _, h.zz.off (by omega) _, (h.bel.set_ (by omega) _).drew⟩
  have hs := h.ww.set_ t (.int .u32 (iu32 x))
  rw [arr_set] at hs
  refine hs.sub (arr_congr fun i hi => ?_)
  unfold wcell
  by_cases e : i = t
  · subst e; rw [if_pos rfl, if_pos (by omega), hx]
  · rw [if_neg e]; by_cases e2 : i < t
    · rw [if_pos e2, if_pos (by omega)]
    · rw [if_neg e2, if_neg (by omega)]
theorem BInv.get {T : TypeId} {w0 wr : World} {hs : Sha.St} {m : Nat → UInt32} {t : Nat} (h : BInv T w0 wr hs m t) {i : Nat} (hi : i < t) (h64 : i < 64) :
    wr.cell? ⟨w0.heap.size + 1 + 1 + 1, i, none⟩ = some (.int .u32 (iu32 (Sha.wd m i))) := by
  rw [h.ww.cell i, arr_at _ h64, wcell, if_pos hi]
theorem BInv.get' {T : TypeId} {w0 wr : World} {hs : Sha.St} {m : Nat → UInt32} {t : Nat} (h : BInv T w0 wr hs m t) {i : Nat} (h64 : i < 64) :
    wr.cell? ⟨w0.heap.size + 1 + 1 + 1, i, none⟩ = some (wcell m t i) := by
  rw [h.ww.cell i, arr_at _ h64]
theorem BInv.new (T : TypeId) (w : World) (hs : Sha.St) (m : Nat → UInt32) : BInv T w ((((w.alloc (.cells (st8 hs) T)).alloc (.cells karr 222)).alloc (.cells #[.int .u32 0, .int .u32 0, .int .u32 0, .int .u32 0, .int .u32 0, .int .u32 0, .int .u32 0, .int .u32 0] T)).alloc (.cells zero64 222)) hs m 0 := by
  refine ⟨?_, ?_, ?_, ?_, ?_⟩
  · exact Blk.new' _ _ _ (by simp)
  · exact ((Blk.new' _ _ _ rfl).alloc _).alloc _ |>.alloc _
  · exact ((Blk.new' _ _ _ (by simp)).alloc _).alloc _
  · exact ((Blk.new' _ _ _ (by simp)).alloc _)
  · exact (((Below.refl _ _).alloc (by simp) _).alloc (by simp) _ |>.alloc (by simp; omega) _).alloc (by simp; omega) _
theorem BInv.alloc {T : TypeId} {w0 wr : World} {hs : Sha.St} {m : Nat → UInt32} {t : Nat} (h : BInv T w0 wr hs m t) (o : Obj) : BInv T w0 (wr.alloc o) hs m t :=
  ⟨h.ww.alloc o, h.hh.alloc o, h.kk.alloc o, h.zz.alloc o, h.bel.alloc (by have := h.hh.lt; omega) o⟩
theorem BInv.upd {T : TypeId} {w0 wr w' : World} {hs : Sha.St} {m : Nat → UInt32} {t g : Nat} (h : BInv T w0 wr hs m t) (u : Upd g wr w') (hg : w0.heap.size + 1 + 1 + 1 < g) : BInv T w0 w' hs m t :=
  ⟨h.ww.upd u (by omega), h.hh.upd u (by omega), h.kk.upd u (by omega), h.zz.upd u (by omega), h.bel.upd u (by omega)⟩
theorem zero8_new (T : TypeId) (w : World) : Blk (w.alloc (.cells #[.int .u32 0, .int .u32 0, .int .u32 0, .int .u32 0, .int .u32 0, .int .u32 0, .int .u32 0, .int .u32 0] T)) w.heap.size T zero8 := Blk.new _ _ _
theorem quiet_left {P : Program} {f : FuncId} {args : Array Value} {w : World} {n : Nat} {v : Value}
    (h : Calls P f args (w.drewN n) fun e w' => e = .returned v ∧ w.drewN n = w') : Calls P f args (w.drewN n) fun e w'' => e = .returned v ∧ ∃ m, w'' = w.drewN m :=
  h.mono fun _ _ ⟨he, hm⟩ => ⟨he, n, hm.symm⟩

end Go.Proofs.YtgkljncigbiffaaDoor

/- The program's mixing in of a block answers what the plain function says. Condition: there are 64 bytes. -/
namespace Go.Proofs.YtgkljncigbiffaaDoor
open Go.RowKit
set_option maxHeartbeats 1000000 in
set_option maxRecDepth 100000 in
theorem block_any (hs : Sha.St) (b off n c : Nat) (bs : List UInt8) (hn : n = bs.length) (h64 : 64 ≤ n)
   (w : World) (hbl : b < w.heap.size) (hb : ∀ j, j < n → w.cell? ⟨b, off + j, none⟩ = some (.int .u8 (iu8 (bs.getD j 0)))) :
    Calls Tryd.prog 146 #[.agg (st8 hs), .slice (some ⟨b, off, none⟩) n c, .agg karr] w fun e w' => e = .returned (.agg (st8 (Sha.blk hs bs 0))) ∧ Below w.heap.size w w' := by
  have a64 := alloc64
  have HN := Lib.hid hn; clear hn
  have HB := Lib.hid hb; clear hb
  go_enter Tryd.func146, Tryd.ntmps146
  go_wp2
  go_loopw [19] (fun i wr => ∃ t : Nat, t ≤ 16 ∧ i = .int .i64 t ∧ BInv 221 w wr hs (Sha.word bs 0) t) (fun i _ => 16 - (intOf i).toNat)
  case atStart => exact ⟨0, by omega, rfl, BInv.new _ w hs _⟩
  case round =>
    obtain ⟨t, ht, rfl, hI⟩ := hrel
    by_cases hlt : t < 16
    · obtain ⟨x0, h0⟩ : ∃ x, x = bs.getD (4 * t) 0 := ⟨_, rfl⟩
      obtain ⟨x1, h1⟩ : ∃ x, x = bs.getD (4 * t + 1) 0 := ⟨_, rfl⟩
      obtain ⟨x2, h2⟩ : ∃ x, x = bs.getD (4 * t + 2) 0 := ⟨_, rfl⟩
      obtain ⟨x3, h3⟩ : ∃ x, x = bs.getD (4 * t + 3) 0 := ⟨_, rfl⟩
      have c0 := (hI.bel.cell (p := ⟨b, off + 4 * t, none⟩) hbl).trans (HB.out (4 * t) (by omega))
      have c1 := (hI.bel.cell (p := ⟨b, off + (4 * t + 1), none⟩) hbl).trans (HB.out (4 * t + 1) (by omega))
      have c2 := (hI.bel.cell (p := ⟨b, off + (4 * t + 2), none⟩) hbl).trans (HB.out (4 * t + 2) (by omega))
      have c3 := (hI.bel.cell (p := ⟨b, off + (4 * t + 3), none⟩) hbl).trans (HB.out (4 * t + 3) (by omega))
      rw [← h0] at c0; rw [← h1] at c1; rw [← h2] at c2; rw [← h3] at c3
      have HW := Lib.hid (show Sha.wd (Sha.word bs 0) t = Sha.be x0 x1 x2 x3 by rw [Sha.wd_lo _ hlt, h0, h1, h2, h3]; simp [Sha.word])
      clear h0 h1 h2 h3
      have c4 := hI.get' (i := t) (by omega)
      have c5 := hI.ww.frozen t
      go_wp2
      refine wp_region_tail 35 (by kernel_rfl) (by kernel_rfl) ?_
      simp only [List.take_succ_cons, List.take_zero, List.drop_succ_cons, List.drop_zero]
      repeat (go_big_quiet_step (fail))
      refine wpQuiet_nil ?_
      go_wp2
      go_roundw
      case rel => exact ⟨t + 1, by omega, by go_num, hI.store _ HW.out⟩
      case measure => simp [intOf]; omega
    · obtain rfl : t = 16 := by omega
      clear ht hlt
      go_wp2
      go_loopw [9] (fun i wr => ∃ t : Nat, 16 ≤ t ∧ t ≤ 64 ∧ i = .int .i64 t ∧ BInv 221 w wr hs (Sha.word bs 0) t) (fun i _ => 64 - (intOf i).toNat)
      case atStart => exact ⟨16, by omega, by omega, rfl, hI⟩
      case round =>
        clear hI
        obtain ⟨t, ht1, ht2, rfl, hI⟩ := hrel
        by_cases hlt : t < 64
        · go_wp2
          obtain ⟨y2, h2⟩ : ∃ y, y = Sha.wd (Sha.word bs 0) (t - 2) := ⟨_, rfl⟩
          obtain ⟨y7, h7⟩ : ∃ y, y = Sha.wd (Sha.word bs 0) (t - 7) := ⟨_, rfl⟩
          obtain ⟨y15, h15⟩ : ∃ y, y = Sha.wd (Sha.word bs 0) (t - 15) := ⟨_, rfl⟩
          obtain ⟨y16, h16⟩ : ∃ y, y = Sha.wd (Sha.word bs 0) (t - 16) := ⟨_, rfl⟩
          have HW := Lib.hid (show Sha.wd (Sha.word bs 0) t = Sha.s1 y2 + y7 + Sha.s0 y15 + y16 by rw [h2, h7, h15, h16]; exact Sha.wd_hi _ ht1)
          have c15 := hI.get (i := t - 15) (by omega) (by omega)
          rw [← h15] at c15
          have H2 := Lib.hid h2; have H7 := Lib.hid h7; have H15 := Lib.hid h15; have H16 := Lib.hid h16
          clear h2 h7 h15 h16
          go_quiet ((go_at_call 158; exact quiet_left (turned_any _ _ (by omega) (by omega) _)))
          go_wp2
          have hI1 := hI.drewN nq
          clear hI c15
          generalize wr.drewN nq = w1 at hI1 ⊢
          have c2 := hI1.get (i := t - 2) (by omega) (by omega)
          rw [← H2.out] at c2
          go_quiet ((go_at_call 158; exact quiet_left (turned_any _ _ (by omega) (by omega) _)))
          go_wp2
          have hI2 := hI1.drewN nq
          clear hI1 c2
          generalize w1.drewN nq = w2 at hI2 ⊢
          have c7 := hI2.get (i := t - 7) (by omega) (by omega)
          have c16 := hI2.get (i := t - 16) (by omega) (by omega)
          rw [← H7.out] at c7
          rw [← H16.out] at c16
          have c0 := hI2.get' hlt
          have cf := hI2.ww.frozen t
          refine wp_region_tail 15 (by kernel_rfl) (by kernel_rfl) ?_
          simp only [List.take_succ_cons, List.take_zero, List.drop_succ_cons, List.drop_zero]
          repeat (go_big_quiet_step (fail))
          refine wpQuiet_nil ?_
          go_wp2
          go_roundw
          case rel => exact ⟨t + 1, by omega, by omega, by go_num, hI2.store _ (HW.out)⟩
          case measure => simp [intOf]; omega
        · obtain rfl : t = 64 := by omega
          clear ht1 ht2 hlt
          have hX := hI.ww.lt
          have hz8 := zero8_new 221 wr
          go_wp2_with (first
            | (refine wpList_load_blk (o := ⟨some 111, _, _, _, _, _⟩) hI.hh (by rfl) _ _ (by rfl) (by rfl) _ Tryd.underlying221 (by rfl) size8 (st8_size _) ?_)
            | (show wpList _ _ _ ((⟨none, _, _, _, _, _⟩ : Oper) :: _) _ _; (refine wpList_store_blk (o := ⟨none, _, _, _, _, _⟩) hz8 (by rfl) _ _ _ (by rfl) (by rfl) (st8 hs) (by rfl) size8 zero8_size (st8_size _) (st8_one _) ?_; intro w3 hx3 hu3; have hI3 := (hI.alloc _).upd hu3 (by omega); clear hI hu3 hz8)))
          generalize wr.heap.size = X at hX hx3 ⊢
          go_loopw [112] (fun i wr => ∃ t : Nat, t ≤ 64 ∧ i = .int .i64 t ∧ BInv 221 w wr hs (Sha.word bs 0) 64 ∧ Blk wr X 221 (st8 (Sha.rounds (Sha.word bs 0) hs t))) (fun i _ => 64 - (intOf i).toNat)
          case atStart => exact ⟨0, by omega, rfl, hI3, hx3⟩
          case round =>
            clear hI3 hx3
            obtain ⟨t, ht, rfl, hI, hx⟩ := hrel
            by_cases hlt : t < 64
            · obtain ⟨s, hs'⟩ : ∃ s, s = Sha.rounds (Sha.word bs 0) hs t := ⟨_, rfl⟩
              rw [← hs'] at hx
              obtain ⟨k, hk'⟩ : ∃ k, k = Sha.kt t := ⟨_, rfl⟩
              obtain ⟨y, hy'⟩ : ∃ k, k = Sha.wd (Sha.word bs 0) t := ⟨_, rfl⟩
              have HS := Lib.hid (show Sha.rounds (Sha.word bs 0) hs (t + 1) = Sha.round k y s by rw [hs', hk', hy']; rfl)
              have HK := Lib.hid hk'
              have HY := Lib.hid hy'
              clear hs' hk' hy'
              have r0 : wr.cell? ⟨X, 0, none⟩ = some (.int .u32 (iu32 s.a)) := hx.cell 0
              have r4 : wr.cell? ⟨X, 4, none⟩ = some (.int .u32 (iu32 s.e)) := hx.cell 4
              go_wp2
              go_quiet (fail)
              go_wp2
              replace hI := hI.drewN nq
              replace hx := hx.drewN nq
              clear r0 r4
              generalize wr.drewN nq = w1 at hI hx ⊢
              have r7 : w1.cell? ⟨X, 7, none⟩ = some (.int .u32 (iu32 s.h)) := hx.cell 7
              have r5 : w1.cell? ⟨X, 5, none⟩ = some (.int .u32 (iu32 s.f)) := hx.cell 5
              have r6 : w1.cell? ⟨X, 6, none⟩ = some (.int .u32 (iu32 s.g)) := hx.cell 6
              have rw := hI.get (i := t) hlt hlt
              have rk : w1.cell? ⟨w.heap.size + 1, t, none⟩ = some (.int .u32 (iu32 (Sha.kt t))) := by rw [hI.kk.cell t]; exact arr_at _ hlt
              rw [← HY.out] at rw
              rw [← HK.out] at rk
              go_quiet ((go_at_call 158; exact quiet_left (turned_any _ _ (by omega) (by omega) _)))
              go_wp2
              replace hI := hI.drewN nq
              replace hx := hx.drewN nq
              clear r7 r5 r6 rw rk
              generalize w1.drewN nq = w2 at hI hx ⊢
              have r1 : w2.cell? ⟨X, 1, none⟩ = some (.int .u32 (iu32 s.b)) := hx.cell 1
              have r2 : w2.cell? ⟨X, 2, none⟩ = some (.int .u32 (iu32 s.c)) := hx.cell 2
              go_quiet ((go_at_call 158; exact quiet_left (turned_any _ _ (by omega) (by omega) _)))
              replace hI := hI.drewN nq
              replace hx := hx.drewN nq
              clear r1 r2
              generalize w2.drewN nq = w3 at hI hx ⊢
              have r1 : w3.cell? ⟨X, 1, none⟩ = some (.int .u32 (iu32 s.b)) := hx.cell 1
              have r2 : w3.cell? ⟨X, 2, none⟩ = some (.int .u32 (iu32 s.c)) := hx.cell 2
              have r3 : w3.cell? ⟨X, 3, none⟩ = some (.int .u32 (iu32 s.d)) := hx.cell 3
              have r5 : w3.cell? ⟨X, 5, none⟩ = some (.int .u32 (iu32 s.f)) := hx.cell 5
              have r6 : w3.cell? ⟨X, 6, none⟩ = some (.int .u32 (iu32 s.g)) := hx.cell 6
              go_wp2_with (show wpList _ _ _ ((⟨none, _, _, _, _, _⟩ : Oper) :: _) _ _; ((refine wpList_store_blk (o := ⟨none, _, _, _, _, _⟩) hx (by rfl) _ _ _ (by rfl) (by rfl) (st8 (Sha.round k y s)) (by first | rfl | refine Eq.trans (b := Value.agg #[.int .u32 ((iu32 _ + iu32 _) % 4294967296), _, _, _, .int .u32 ((iu32 _ + iu32 _) % 4294967296), _, _, _]) rfl ?_; simp only [u32_add_w]; rfl) size8 (st8_size _) (st8_size _) (st8_one _) ?_; intro w4 hx4 hu4; have hI4 := hI.upd hu4 (by omega); clear hI hx hu4 r1 r2 r3 r5 r6)))
              go_roundw
              case rel => exact ⟨t + 1, by omega, by go_num, hI4, by rw [HS.out]; exact hx4⟩
              case measure => simp [intOf]; omega
            · obtain rfl : t = 64 := by omega
              obtain ⟨xs, hxs⟩ : ∃ s, s = Sha.rounds (Sha.word bs 0) hs 64 := ⟨_, rfl⟩
              rw [← hxs] at hx
              have HX := Lib.hid (show Sha.blk hs bs 0 = Sha.add hs xs by rw [hxs]; rfl)
              clear hxs ht hlt
              have hh0 := hI.hh.sub (sum8_zero hs xs)
              go_wp2
              go_loopw [192] (fun i wr => ∃ t : Nat, t ≤ 8 ∧ i = .int .i64 t ∧ Blk wr w.heap.size 221 (sum8 hs xs t) ∧ Blk wr (w.heap.size + 1 + 1) 221 zero8 ∧ Blk wr X 221 (st8 xs) ∧ Below w.heap.size w wr) (fun i _ => 8 - (intOf i).toNat)
              case atStart => exact ⟨0, by omega, rfl, hh0, hI.zz, hx, hI.bel⟩
              case round =>
                clear hI hx hh0
                obtain ⟨t, ht, rfl, hh, hz, hx, hbel⟩ := hrel
                by_cases hlt : t < 8
                · have c0 := (hh.cell t).trans (sum8_get hs xs t hlt)
                  have c1 := (hx.cell t).trans (st8_get xs t hlt)
                  have cf := hh.frozen t
                  go_wp2
                  refine wp_region_tail 8 (by kernel_rfl) (by kernel_rfl) ?_
                  simp only [List.take_succ_cons, List.take_zero, List.drop_succ_cons, List.drop_zero]
                  repeat (go_big_quiet_step (fail))
                  refine wpQuiet_nil ?_
                  go_wp2
                  go_roundw
                  case rel =>
                    refine ⟨t + 1, by omega, by go_num, ?_, hz.off (by omega) _, hx.off (by omega) _, (hbel.set_ (by omega) _).drew⟩
                    have := hh.set_ t (.int .u32 (iu32 (Sha.get hs t + Sha.get xs t)))
                    rw [sum8_set] at this
                    first | exact this | (rw [← u32_add_w] at this; exact this)
                  case measure => simp [intOf]; omega
                · obtain rfl : t = 8 := by omega
                  rw [sum8_all] at hh
                  go_wp2_with (first
                    | (show wpList _ _ _ ((⟨some 204, _, _, _, _, _⟩ : Oper) :: _) _ _; (refine wpList_load_blk (o := ⟨some 204, _, _, _, _, _⟩) hh (by rfl) _ _ (by rfl) (by rfl) _ Tryd.underlying221 (by rfl) size8 (st8_size _) ?_))
                    | (show wpList _ _ _ ((⟨none, _, _, _, _, _⟩ : Oper) :: _) _ _; (refine wpList_store_blk (o := ⟨none, _, _, _, _, _⟩) hz (by rfl) _ _ _ (by rfl) (by rfl) (st8 (Sha.add hs xs)) (by rfl) size8 zero8_size (st8_size _) (st8_one _) ?_; intro w5 hz5 hu5; have hbel5 := hbel.upd hu5 (by omega); clear hbel hh hz hx hu5)))
                  refine bodyPost_ret (results_cell_row (by rfl) _ _ _ _ _ _ _ (by rfl) hz5 Tryd.underlying221 (by rfl) size8) rfl ⟨?_, hbel5⟩
                  rw [HX.out]
end Go.Proofs.YtgkljncigbiffaaDoor

/- What the blocks hold in which both texts make a seal: plain facts on worlds. No condition. -/
namespace Go.Proofs.YtgkljncigbiffaaDoor
open Go.RowKit
theorem size64 : (Tryd.prog.info? 222).map (·.size) = some 64 := by kernel_rfl
theorem karr_one : karr.all (·.oneCell') = true := by kernel_rfl

def lenOf : Value → Nat
  | .slice _ n _ => n
  | _ => 0
def zero16 : Array Value := arr 16 fun _ => .int .u8 0
theorem size16 : (Tryd.prog.info? 158).map (·.size) = some 16 := by kernel_rfl
theorem alloc16 (w : World) : (zeroValue 158).run Tryd.prog w = .ok (.agg zero16) w := by
  have h : (Tryd.prog.info? 158).map (fun i => (i.zero, i.size)) = some (some (.agg zero16), 16) := by kernel_rfl
  exact (zero_of_info h).1 w
/-- What the call's own blocks hold: the words, the constants. -/
structure SInv (T : TypeId) (w0 wr : World) (H K : Nat) (s : Sha.St) : Prop where
  hh : Blk wr H T (st8 s)
  kk : Blk wr K 222 karr
  rr : Blk wr w0.heap.size 158 zero16
  h1 : w0.heap.size < H
  h2 : H < K
  bel : Below w0.heap.size w0 wr
theorem SInv.below {T : TypeId} {w0 wr w' : World} {H K : Nat} {s : Sha.St} (h : SInv T w0 wr H K s) (hb : Below wr.heap.size wr w') : SInv T w0 w' H K s :=
  ⟨h.hh.below hb h.hh.lt, h.kk.below hb h.kk.lt, h.rr.below hb h.rr.lt, h.h1, h.h2, h.bel.trans (hb.mono h.bel.size)⟩
theorem SInv.stored {T : TypeId} {w0 wr w' : World} {H K : Nat} {s s' : Sha.St} (h : SInv T w0 wr H K s) (hb : Blk w' H T (st8 s')) (u : Upd H wr w') : SInv T w0 w' H K s' :=
  ⟨hb, h.kk.upd u (by have := h.h2; omega), h.rr.upd u (by have := h.h1; omega), h.h1, h.h2, h.bel.upd u (by have := h.h1; omega)⟩

theorem SInv.grown {T : TypeId} {w0 wr w' : World} {H K : Nat} {s : Sha.St} {row : Option Nat} (h : SInv T w0 wr H K s) (hg : wr.grownBy w' row) (hr : ∀ k, row = some k → K < k) : SInv T w0 w' H K s := by
  have hne : ∀ k, k ≤ K → some k ≠ row := fun k hk e => by have := hr k e.symm; omega
  have h1 := h.h1
  have h2 := h.h2
  exact ⟨(hg.block _ h.hh.lt (hne _ (by omega))).trans h.hh, (hg.block _ h.kk.lt (hne _ (by omega))).trans h.kk, (hg.block _ h.rr.lt (hne _ (by omega))).trans h.rr, h.h1, h.h2,
    h.bel.grown hg h.bel.size (fun k hk => by have := hr k hk; omega)⟩
theorem SInv.alloc {T : TypeId} {w0 wr : World} {H K : Nat} {s : Sha.St} (h : SInv T w0 wr H K s) (o : Obj) : SInv T w0 (wr.alloc o) H K s := h.below ((Below.refl _ _).alloc (Nat.le_refl _) o)
/-- The 16 bytes, of which the first 4 i have been laid. -/
def darr (x : Sha.St) (i : Nat) : Array Value := arr 16 fun k => if k < 4 * i then u8v (Sha.outAt x k) else .int .u8 0
theorem darr_zero (x : Sha.St) : zero16 = darr x 0 := arr_congr fun i _ => by simp
theorem darr_all (x : Sha.St) : darr x 4 = ((Sha.out x).map u8v).toArray := by
  unfold Sha.out
  rw [List.map_map, arr_list]
  exact arr_congr fun i h => by simp [h]
theorem byte_eq (y : UInt32) (i : Nat) : iu32 y / 2 ^ (24 - 8 * i) % 256 = iu8 (Sha.byte y i) := by
  rw [Sha.byte, iu8_ofNat_mod]; unfold iu32; simp
theorem darr_set (x : Sha.St) (i : Nat) (y : UInt32) (hy : y = Sha.get x i) :
    ((((darr x i).setIfInBounds (4 * i) (.int .u8 (iu8 (Sha.byte y 0)))).setIfInBounds (4 * i + 1) (.int .u8 (iu8 (Sha.byte y 1)))).setIfInBounds (4 * i + 2) (.int .u8 (iu8 (Sha.byte y 2)))).setIfInBounds (4 * i + 3) (.int .u8 (iu8 (Sha.byte y 3))) = darr x (i + 1) := by
  unfold darr
  rw [arr_set, arr_set, arr_set, arr_set]
  refine arr_congr fun k _ => ?_
  have hv : ∀ r, r < 4 → u8v (Sha.outAt x (4 * i + r)) = .int .u8 (iu8 (Sha.byte y r)) := fun r hr => by
    have e1 : (4 * i + r) / 4 = i := by omega
    have e2 : (4 * i + r) % 4 = r := by omega
    unfold Sha.outAt u8v
    rw [e1, e2, hy]
  by_cases h3 : k = 4 * i + 3
  · rw [if_pos h3, if_pos (by omega), h3, hv 3 (by omega)]
  rw [if_neg h3]
  by_cases h2 : k = 4 * i + 2
  · rw [if_pos h2, if_pos (by omega), h2, hv 2 (by omega)]
  rw [if_neg h2]
  by_cases h1 : k = 4 * i + 1
  · rw [if_pos h1, if_pos (by omega), h1, hv 1 (by omega)]
  rw [if_neg h1]
  by_cases h0 : k = 4 * i
  · have := hv 0 (by omega)
    rw [if_pos h0, if_pos (by omega), h0]; exact this.symm
  rw [if_neg h0]
  by_cases hk : k < 4 * i
  · rw [if_pos hk, if_pos (by omega)]
  · rw [if_neg hk, if_neg (by omega)]
theorem SInv.off {T : TypeId} {w0 wr : World} {H K D i : Nat} {s : Sha.St} (h : SInv T w0 wr H K s) (hD : K < D) (u : Value) : SInv T w0 (wr.setCell ⟨D, i, none⟩ u) H K s :=
  ⟨h.hh.off (by have := h.h2; omega) u, h.kk.off (by omega) u, h.rr.off (by have := h.h1; have := h.h2; omega) u, h.h1, h.h2, h.bel.set_ (by have := h.h1; have := h.h2; omega) u⟩
end Go.Proofs.YtgkljncigbiffaaDoor
