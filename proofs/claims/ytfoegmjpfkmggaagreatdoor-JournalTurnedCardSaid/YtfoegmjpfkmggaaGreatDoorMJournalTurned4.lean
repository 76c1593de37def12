/- A region that draws its order, taken by a plan: operations that leave the world alone are taken first wherever they may come, the others come up in one forced order. Plain facts over any program. No condition. -/
import Derived.Test.YtfoegmjpfkmggaaGreatDoorMJournalTurned3
import Derived.Deep.MidRow
import Derived.OrdersIn
namespace Go
section
variable {P : Program} {ops : Array Oper} {md : Region.Mode} {C : World → Prop} {Z : List Nat} {Q : Exit → Act → World → Prop}
/-- In state 'a', in every world of the class, the operation leaves v in its temporary, and that very world. -/
def YieldsC (P : Program) (ops : Array Oper) (C : World → Prop) (o : Oper) (v : Value) (a : Act) : Prop :=
  (Region.wanted o (yielded ops a.tmps) = true ∧ ∀ w, C w → o.quietAt P a (fun w' => w' = w) w v) ∨
  (Region.wanted o (yielded ops a.tmps) = false ∧ v = undef)
theorem YieldsC.of_same {o : Oper} {v : Value} {a a' : Act} (hy : YieldsC P ops C o v a) (he : execOp a'.eval o = execOp a.eval o)
    (hw : Region.wanted o (yielded ops a'.tmps) = Region.wanted o (yielded ops a.tmps)) : YieldsC P ops C o v a' := by
  unfold YieldsC Oper.quietAt at *
  rw [he, hw]
  exact hy
theorem YieldsC.wpOp {i : Nat} {o : Oper} {v : Value} {a : Act} (hi : ops[i]? = some o) (hy : YieldsC P ops C o v a) {K : Act → World → Prop} {w : World} (hC : C w) (h : K (a.put o.dst v) w) : wpOp P ops Q i K a w := by
  unfold Go.wpOp
  simp only [hi]
  rcases hy with ⟨hw, hv⟩ | ⟨hw, rfl⟩
  · simp only [hw, if_true]
    have h1 := hv w hC
    refine .inl ?_
    unfold Oper.quietAt at h1
    unfold Oper.wp
    generalize (execOp a.eval o).run P w = r at *
    cases r with
    | ok n w' =>
      cases n <;> simp only [Oper.quietUpon] at h1 <;> simp only [Oper.upon]
      case value u => obtain ⟨e1, e2⟩ := h1; rw [e1, e2]; exact h
      case skip => obtain ⟨e1, e2⟩ := h1; rw [e1, ← e2]; exact h
      case enter f args =>
        obtain ⟨e1, hc⟩ := h1
        rw [e1]
        exact hc.mono fun e w'' ⟨he, hw''⟩ => by subst he; rw [hw'']; exact h
    | halt x w' => simp only [Oper.quietUpon] at h1
  · simp only [hw, Bool.false_eq_true, if_false]; exact h
theorem wpOp_putC {j : Nat} {oi oj : Oper} {v : Value} (hj : ops[j]? = some oj) (hap : oi.apart ops oj = true)
    (hsi : ∀ cs b, oi.op ≠ .select cs b) (hsj : ∀ cs b, oj.op ≠ .select cs b)
    (hQ : ∀ c a a' w, a'.defers = a.defers → Q (.panic c) a' w → Q (.panic c) a w) {K : Act → World → Prop} {a : Act} {w : World}
    (hy : YieldsC P ops C oi v a) (h : wpOp P ops Q j K (a.put oi.dst v) w) :
    wpOp P ops Q j (fun a' w' => YieldsC P ops C oi v a' ∧ K (a'.put oi.dst v) w') a w := by
  obtain ⟨h1, h2, h3⟩ := Oper.apart_spec hap
  have hdef : ∀ (a : Act) (d : Option Tmp) (v : Value), (a.put d v).defers = a.defers := fun a d v => by cases d <;> rfl
  have keep : ∀ (a : Act), YieldsC P ops C oi v a → ∀ u, YieldsC P ops C oi v (a.put oj.dst u) := fun a hy u =>
    hy.of_same (execOp_put oi hsi a oj.dst u h3) (wanted_put oi a oj.dst u h3)
  have keepD : ∀ d, YieldsC P ops C oi v { a with defers := d :: a.defers } := fun d => hy.of_same rfl rfl
  unfold wpOp at *
  simp only [hj] at *
  rw [wanted_put oj a oi.dst v h1] at h
  split
  · rename_i hw
    simp only [hw, if_true] at h
    rcases h with h | ⟨hasks, hlets⟩
    case inr => exact .inr ⟨by unfold Oper.asks at *; rw [execOp_put oj hsj a oi.dst v h1] at hasks; exact hasks, hlets⟩
    refine .inl ?_
    unfold Oper.wp at *
    rw [execOp_put oj hsj a oi.dst v h1] at h
    generalize (execOp a.eval oj).run P w = r at *
    cases r with
    | ok n w' =>
      cases n <;> simp only [Oper.upon] at h ⊢
      case value u => exact ⟨keep a hy u, by rw [← Act.put_comm a v u h2]; exact h⟩
      case skip => exact ⟨keep a hy _, by rw [← Act.put_comm a v undef h2]; exact h⟩
      case defer d =>
        refine ⟨keep _ (keepD d) _, ?_⟩
        rw [← Act.put_comm _ v undef h2, ← Act.put_defers]
        exact h
      case enter f args =>
        refine Calls.mono h fun e w'' he => ?_
        cases e with
        | returned u => exact ⟨keep a hy u, by rw [← Act.put_comm a v u h2]; exact he⟩
        | panicked c => exact hQ _ _ _ _ (hdef _ _ _) he
        | outgrown => exact he
      case row row args => exact Rows.mono h fun u w'' he => ⟨keep a hy u, by rw [← Act.put_comm a v u h2]; exact he⟩
    | halt x w' =>
      cases x <;> simp only [Oper.upon] at h ⊢
      case panic u => exact hQ _ _ _ _ (hdef _ _ _) h
  · rename_i hw
    simp only [hw] at h
    exact ⟨keep a hy _, by rw [← Act.put_comm a v undef h2]; exact h⟩

/-- Whatever order is picked from here on; behind each operation but those of Z the world is of the class. -/
def wpAnyC (P : Program) (md : Region.Mode) (ops : Array Oper) (C : World → Prop) (Z : List Nat) (Q : Exit → Act → World → Prop) : Nat → Array Bool → Act → World → Prop
  | 0, listed, a, w => Region.ready md ops listed = [] ∧ Q .normal a w
  | fuel + 1, listed, a, w =>
    (Region.ready md ops listed = [] → Q .normal a w) ∧
    ∀ i ∈ Region.ready md ops listed, wpOp P ops Q i (fun a' w' => (i ∈ Z ∨ C w') ∧ wpAnyC P md ops C Z Q fuel (listed.setIfInBounds i true) a' w') a w
theorem wpAny_of_C : ∀ (fuel : Nat) (s : Array Bool) (a : Act) (w : World), wpAnyC P md ops C Z Q fuel s a w → wpAny P md ops Q fuel s a w
  | 0, _, _, _, h => h
  | fuel + 1, _, _, _, h => ⟨h.1, fun i hi => wpOp_mono (fun a' w' h' => wpAny_of_C fuel _ a' w' h'.2) (h.2 i hi)⟩
theorem wpAnyC_first {i : Nat} {oi : Oper} {v : Value} (hi : ops[i]? = some oi) (hns : Region.noSelect ops = true)
    (hQ : ∀ c a a' w, a'.defers = a.defers → Q (.panic c) a' w → Q (.panic c) a w) (hZ : ∀ z ∈ Z, Region.waitsFor md ops z i = true) :
    ∀ (fuel : Nat) (s : Array Bool) (a : Act) (w : World),
      (∀ j oj, ops[j]? = some oj → j ≠ i → s.getD j true = false → (∀ e ∈ oj.after, Region.binds md e = true → e.on ≠ i) → oi.apart ops oj = true) →
      i ∈ Region.ready md ops s → YieldsC P ops C oi v a → C w →
      wpAnyC P md ops C Z Q fuel (s.setIfInBounds i true) (a.put oi.dst v) w → wpAnyC P md ops C Z Q (fuel + 1) s a w := by
  have sel := fun (j : Nat) (o : Oper) cs b => Region.noSelect_spec hns j o cs b
  intro fuel
  induction fuel with
  | zero =>
    intro s a w _ hr hy hC H
    refine ⟨fun h => (by rw [h] at hr; cases hr), fun j hj => ?_⟩
    by_cases hji : j = i
    · subst hji; exact hy.wpOp hi hC ⟨.inr hC, H⟩
    · have := ready_mono hj hji
      rw [H.1] at this
      cases this
  | succ fuel ih =>
    intro s a w hfree hr hy hC H
    refine ⟨fun h => (by rw [h] at hr; cases hr), fun j hj => ?_⟩
    by_cases hji : j = i
    · subst hji; exact hy.wpOp hi hC ⟨.inr hC, H⟩
    · have h1 := H.2 j (ready_mono hj hji)
      obtain ⟨hjun, oj, hoj, hall⟩ := mem_ready.1 hj
      have hiun := (mem_ready.1 hr).1
      have hnot : ∀ e ∈ oj.after, Region.binds md e = true → e.on ≠ i := fun e he hb heq => by
        have h2 := hall e he hb
        rw [heq, getD_both hiun] at h2
        cases h2
      have hjZ : j ∉ Z := fun hz => by
        obtain ⟨ot, hot, e, he, hb, hon⟩ := Region.waitsFor_spec (hZ j hz)
        have : ot = oj := Option.some.inj (hot.symm.trans hoj)
        rw [this] at he
        exact hnot e he hb hon
      have h2 := wpOp_putC hoj (hfree j oj hoj hji hjun hnot) (fun cs b => sel i oi cs b hi) (fun cs b => sel j oj cs b hoj) hQ hy h1
      have hfree' : ∀ k ok, ops[k]? = some ok → k ≠ i → (s.setIfInBounds j true).getD k true = false →
          (∀ e ∈ ok.after, Region.binds md e = true → e.on ≠ i) → oi.apart ops ok = true := fun k ok hk hki hun hno => by
        refine hfree k ok hk hki ?_ hno
        by_cases hjk : j = k
        · subst hjk; exact hjun
        · rw [getD_set_ne true hjk] at hun; exact hun
      refine wpOp_mono (fun a' w' h3 => ?_) h2
      have hC' : C w' := h3.2.1.resolve_left hjZ
      refine ⟨.inr hC', ih (s.setIfInBounds j true) a' w' hfree' (ready_mono hr (Ne.symm hji)) h3.1 hC' ?_⟩
      rw [Array.setIfInBounds_comm _ _ hji]
      exact h3.2.2
/-- Operations that leave the world as it is. -/
def Op.stillB : Op → Bool
  | .load .. | .pick .. | .makeInterface .. | .nilCheck .. | .makeFunc .. => true
  | o => o.valued
theorem still_run {o : Oper} (h : o.op.stillB = true) (ρ : Operand → Value) (w w' : World) (n : Next) (hr : (execOp ρ o).run P w = .ok n w') : ∃ v, n = .value v := by
  have key : ∀ (m : Sem Value), (do let x ← m; pure (Next.value x) : Sem Next).run P w = .ok n w' → ∃ v, n = .value v := by
    intro m hm
    rw [Sem.run_bind] at hm
    generalize m.run P w = r at hm
    cases r with
    | ok x w2 => simp only [Result.andThen_ok, Sem.run_pure, Result.ok.injEq] at hm; exact ⟨x, hm.1.symm⟩
    | halt x w2 => simp [Result.andThen] at hm
  by_cases hv : o.op.valued = true
  · exact valued_run hv ρ w w' n hr
  obtain ⟨dst, op, type, pos, after, guard⟩ := o
  cases op
  case load => exact key _ hr
  case makeInterface => exact key _ hr
  case makeFunc => exact key _ hr
  case nilCheck x =>
    have hno : ∀ {e : RuntimeError}, e = .nilDeref → (runtimePanic e : Sem Next).run P w ≠ .ok n w' := fun he hh => by subst he; cases hh
    have hp : ∀ y : Value, (pure (Next.value y) : Sem Next).run P w = .ok n w' → ∃ v, n = .value v := fun y hy => by rw [Sem.run_pure, Result.ok.injEq] at hy; exact ⟨_, hy.1.symm⟩
    simp only [execOp] at hr
    split at hr
    · exact absurd hr (hno rfl)
    · exact absurd hr (hno rfl)
    · exact absurd hr (hno rfl)
    · split at hr
      · exact absurd hr (hno rfl)
      · rw [Sem.run_bind] at hr
        generalize (program).run P w = r0 at hr
        cases r0 with
        | halt y w2 => simp [Result.andThen] at hr
        | ok pp w1 =>
          rw [Result.andThen_ok, Sem.run_bind] at hr
          generalize (nilAhead _ _ _ _).run P w1 = r1 at hr
          cases r1 with
          | halt y w2 => simp [Result.andThen] at hr
          | ok bb w2 =>
            rw [Result.andThen_ok] at hr
            split at hr
            · simp [Result.andThen] at hr
            · rw [Sem.run_pure, Result.ok.injEq] at hr; exact ⟨_, hr.1.symm⟩
      · exact hp _ hr
    · exact hp _ hr
  case pick c a b =>
    simp only [execOp, Sem.run_bind] at hr
    generalize (asBool (ρ c)).run P w = r at hr
    cases r with
    | ok x w2 => simp only [Result.andThen_ok, Sem.run_pure, Result.ok.injEq] at hr; exact ⟨_, hr.1.symm⟩
    | halt x w2 => simp [Result.andThen] at hr
  all_goals first
    | (simp [Op.stillB] at h; exact absurd h hv)
    | (simp [Op.stillB] at h; done)
    | (simp [Op.valued] at hv; done)
/-- Such operations, walked in a class of worlds, yield in each of them and leave it. -/
theorem yieldsC_of {o : Oper} {a : Act} {v : Value} (h : o.op.stillB = true) (hy : YieldsIn P ops C o v a) : YieldsC P ops C o v a := by
  rcases hy with ⟨h1, h2⟩ | h1
  · refine .inl ⟨h1, fun w hw => ?_⟩
    have h3 := h2 w hw
    unfold Oper.quietAt at h3 ⊢
    cases hr : (execOp a.eval o).run P w with
    | ok n w' =>
      obtain ⟨u, rfl⟩ := still_run h _ _ _ _ hr
      rw [hr] at h3
      exact h3
    | halt x w' => rw [hr] at h3; exact h3
  · exact .inr h1

/-! The plan: (true, i): i is taken first; (false, i): i is the only one that may come. -/
def Region.planB (md : Region.Mode) (ops : Array Oper) (Z : List Nat) : List (Bool × Nat) → Array Bool → Bool
  | [], s => (Region.ready md ops s).isEmpty
  | (true, i) :: r, s => (Region.ready md ops s).contains i && Region.free md ops s i && (Z.all fun z => Region.waitsFor md ops z i) && Region.planB md ops Z r (s.setIfInBounds i true)
  | (false, i) :: r, s => decide (Region.ready md ops s = [i]) && Region.planB md ops Z r (s.setIfInBounds i true)
def wpPlan (P : Program) (ops : Array Oper) (C : World → Prop) (Z : List Nat) (Q : Exit → Act → World → Prop) : List (Bool × Nat) → Act → World → Prop
  | [], a, w => Q .normal a w
  | (true, i) :: r, a, w => match ops[i]? with
    | some o => ∃ v, YieldsC P ops C o v a ∧ (C w → wpPlan P ops C Z Q r (a.put o.dst v) w)
    | none => False
  | (false, i) :: r, a, w => wpOp P ops Q i (fun a' w' => (i ∈ Z ∨ C w') ∧ wpPlan P ops C Z Q r a' w') a w
/-- Is it known, at each place of the plan where something is taken first, that the world is of the class? (No place of Z stands ahead of it.) -/
def Region.planZ (Z : List Nat) : List (Bool × Nat) → Bool → Bool
  | [], _ => true
  | (true, _) :: r, c => c && Region.planZ Z r c
  | (false, i) :: r, c => Region.planZ Z r (c && !Z.contains i)
theorem anyC_of_plan (hns : Region.noSelect ops = true) (hQ : ∀ c a a' w, a'.defers = a.defers → Q (.panic c) a' w → Q (.panic c) a w) :
    ∀ (pl : List (Bool × Nat)) (c : Bool) (s : Array Bool) (a : Act) (w : World), Region.planB md ops Z pl s = true → Region.planZ Z pl c = true → (c = true → C w) → wpPlan P ops C Z Q pl a w → wpAnyC P md ops C Z Q pl.length s a w := by
  intro pl
  induction pl with
  | nil => intro c s a w hB _ _ h; exact ⟨by simpa [Region.planB] using hB, h⟩
  | cons x r ih =>
    obtain ⟨b, i⟩ := x
    intro c s a w hB hz hC h
    cases b with
    | true =>
      simp only [Region.planB, Bool.and_eq_true] at hB
      simp only [Region.planZ, Bool.and_eq_true] at hz
      obtain ⟨⟨⟨h1, h2⟩, h3⟩, h4⟩ := hB
      have hr : i ∈ Region.ready md ops s := by simpa using h1
      obtain ⟨_, oi, hoi, _⟩ := mem_ready.1 hr
      simp only [wpPlan, hoi] at h
      obtain ⟨v, hy, hn⟩ := h
      exact wpAnyC_first hoi hns hQ (fun z hz => List.all_eq_true.1 h3 z hz) r.length s a w (Region.free_spec hoi h2) hr hy (hC hz.1) (ih c _ _ _ h4 hz.2 hC (hn (hC hz.1)))
    | false =>
      simp only [Region.planB, Bool.and_eq_true, decide_eq_true_eq] at hB
      simp only [Region.planZ] at hz
      refine ⟨fun h0 => (by rw [hB.1] at h0; cases h0), fun j hj => ?_⟩
      rw [hB.1] at hj
      have hji : j = i := by simpa using hj
      rw [hji]
      refine wpOp_mono (fun a' w' h' => ⟨h'.1, ih (c && !Z.contains i) _ a' w' hB.2 hz (fun hc => ?_) h'.2⟩) h
      simp only [Bool.and_eq_true, Bool.not_eq_true'] at hc
      refine h'.1.resolve_left fun hm => ?_
      rw [List.contains_iff_mem.2 hm] at hc
      cases hc.2
/-- **THE REGION, BY A PLAN.** -/
theorem wp_region_plan {id : Nat} {a : Act} {w : World} {l : List Oper} (C : World → Prop) (Z : List Nat) (pl : List (Bool × Nat)) (hm : P.follows .mixedOrders = true)
    (hB : (Region.noSelect l.toArray && Region.planB .any l.toArray Z pl (Array.replicate l.toArray.size false) && Region.planZ Z pl true && decide (pl.length = l.toArray.size)) = true)
    (hQ : ∀ c a a' w, a'.defers = a.defers → Q (.panic c) a' w → Q (.panic c) a w) (hC : C w.drew) (h : wpPlan P l.toArray C Z Q pl a w.drew) : (Code.region id l.toArray true).wp P Q a w := by
  simp only [Bool.and_eq_true, decide_eq_true_eq] at hB
  obtain ⟨⟨⟨h1, h2⟩, h3⟩, h4⟩ := hB
  refine wp_region_any hm ?_
  rw [← h4]
  exact wpAny_of_C _ _ _ _ (anyC_of_plan h1 hQ pl true _ a w.drew (by rw [h4]; exact h2) h3 (fun _ => hC) h)
/-- Operations that are taken first, walked as quiet ones. -/
theorem wpPlan_take {w : World} (is : List Nat) (r : List (Bool × Nat)) : ∀ (a : Act), ((is.filterMap fun i => ops[i]?).all fun o => o.op.stillB) = true → (is.all fun i => decide (i < ops.size)) = true →
    C w → wpQuiet P ops C (fun a' => wpPlan P ops C Z Q r a' w) (is.filterMap fun i => ops[i]?) a → wpPlan P ops C Z Q (is.map (fun i => (true, i)) ++ r) a w := by
  induction is with
  | nil => intro a _ _ _ h; exact h
  | cons i is ih =>
    intro a hs hlt hC h
    simp only [List.all_cons, Bool.and_eq_true, decide_eq_true_eq] at hlt
    have hi : ops[i]? = some ops[i] := Array.getElem?_eq_getElem hlt.1
    simp only [List.filterMap_cons, hi, List.all_cons, Bool.and_eq_true] at hs h
    have hq : qOp P ops C i (wpQuiet P ops C (fun a' => wpPlan P ops C Z Q r a' w) (is.filterMap fun i => ops[i]?)) a := by unfold qOp; simp only [hi]; exact h
    obtain ⟨v, hy, hK⟩ := yieldsIn_of_qOp hi hq
    simp only [List.map_cons, List.cons_append, wpPlan, hi]
    exact ⟨v, yieldsC_of hs.1 hy, fun _ => ih _ hs.2 hlt.2 hC hK⟩
theorem wpPlan_takeL {l : List Oper} {w : World} (is : List Nat) (r : List (Bool × Nat)) (a : Act) (hs : ((is.filterMap fun i => l[i]?).all fun o => o.op.stillB) = true) (hlt : (is.all fun i => decide (i < l.length)) = true)
    (hC : C w) (h : wpQuiet P l.toArray C (fun a' => wpPlan P l.toArray C Z Q r a' w) (is.filterMap fun i => l[i]?) a) : wpPlan P l.toArray C Z Q (is.map (fun i => (true, i)) ++ r) a w := by
  have e : (is.filterMap fun i => l.toArray[i]?) = is.filterMap fun i => l[i]? := by congr 1; funext i; exact List.getElem?_toArray ..
  exact wpPlan_take is r a (by rw [e]; exact hs) (by simpa using hlt) hC (by rw [e]; exact h)
/-- .. operations that hang on no world. -/
theorem wpPlan_pure {l : List Oper} {w : World} (is : List Nat) (r : List (Bool × Nat)) : ∀ (a : Act), ((is.filterMap fun i => l[i]?).all fun o => o.op.stillB) = true → (is.all fun i => decide (i < l.length)) = true →
    wpQuiet P l.toArray (fun _ => True) (fun a' => wpPlan P l.toArray C Z Q r a' w) (is.filterMap fun i => l[i]?) a → wpPlan P l.toArray C Z Q (is.map (fun i => (true, i)) ++ r) a w := by
  induction is with
  | nil => intro a _ _ h; exact h
  | cons i is ih =>
    intro a hs hlt h
    simp only [List.all_cons, Bool.and_eq_true, decide_eq_true_eq] at hlt
    have hi : l[i]? = some l[i] := List.getElem?_eq_getElem hlt.1
    have hi' : l.toArray[i]? = some l[i] := by rw [List.getElem?_toArray]; exact hi
    simp only [List.filterMap_cons, hi, List.all_cons, Bool.and_eq_true] at hs h
    have hq : qOp P l.toArray (fun _ => True) i (wpQuiet P l.toArray (fun _ => True) (fun a' => wpPlan P l.toArray C Z Q r a' w) (is.filterMap fun i => l[i]?)) a := by unfold qOp; simp only [hi']; exact h
    obtain ⟨v, hy, hK⟩ := yieldsIn_of_qOp hi' hq
    have hy' := yieldsC_of hs.1 hy
    simp only [List.map_cons, List.cons_append, wpPlan, hi']
    refine ⟨v, ?_, fun _ => ih _ hs.2 hlt.2 hK⟩
    rcases hy' with ⟨h1, h2⟩ | h1
    · exact .inl ⟨h1, fun w _ => h2 w trivial⟩
    · exact .inr h1
/-- What is asked behind an operation that had to come. -/
def PlanQ (P : Program) (ops : Array Oper) (C : World → Prop) (Z : List Nat) (Q : Exit → Act → World → Prop) (i : Nat) (r : List (Bool × Nat)) : Exit → Act → World → Prop
  | .normal, a, w => (i ∈ Z ∨ C w) ∧ wpPlan P ops C Z Q r a w
  | e, a, w => Q e a w
theorem wpPlan_force {a : Act} {w : World} {i : Nat} {r : List (Bool × Nat)} (o : Oper) (ho : ops[i]? = some o) (h : wpList P ops (PlanQ P ops C Z Q i r) [o] a w) : wpPlan P ops C Z Q ((false, i) :: r) a w := by
  simp only [wpPlan]
  unfold wpOp
  simp only [ho]
  unfold wpList at h
  have hmono : ∀ {a : Act} {w : World}, o.wp P a w (wpList P ops (PlanQ P ops C Z Q i r) []) (PlanQ P ops C Z Q i r) → o.wp P a w (fun a' w' => (i ∈ Z ∨ C w') ∧ wpPlan P ops C Z Q r a' w') Q := by
    intro a w h
    unfold Oper.wp at h ⊢
    generalize (execOp a.eval o).run P w = rr at *
    cases rr with
    | ok n w' =>
      cases n <;> simp only [Oper.upon] at h ⊢
      case value u => exact h
      case skip => exact h
      case defer d => exact h
      case enter f args =>
        refine Calls.mono h fun e w'' he => ?_
        cases e <;> exact he
      case row row args => exact Rows.mono h fun u w'' he => he
    | halt x w' => cases x <;> simp only [Oper.upon] at h ⊢; exact h
  split
  · rename_i hw
    rw [if_pos hw] at h
    rcases h with h | ⟨h1, h2⟩
    · exact .inl (hmono h)
    · exact .inr ⟨h1, h2⟩
  · rename_i hw
    rw [if_neg hw] at h
    exact h
theorem wpPlan_forceL {l : List Oper} {a : Act} {w : World} {i : Nat} {r : List (Bool × Nat)} (o : Oper) (ho : l[i]? = some o) (h : wpList P l.toArray (PlanQ P l.toArray C Z Q i r) [o] a w) : wpPlan P l.toArray C Z Q ((false, i) :: r) a w :=
  wpPlan_force o (by rw [List.getElem?_toArray]; exact ho) h
theorem PlanQ.in_ {a : Act} {w : World} {i : Nat} {r : List (Bool × Nat)} (hC : C w) (h : wpPlan P ops C Z Q r a w) : PlanQ P ops C Z Q i r .normal a w := ⟨.inr hC, h⟩
theorem PlanQ.out {a : Act} {w : World} {i : Nat} {r : List (Bool × Nat)} (hz : Z.contains i = true) (h : wpPlan P ops C Z Q r a w) : PlanQ P ops C Z Q i r .normal a w := ⟨.inl (by simpa using hz), h⟩
theorem run_isAgg_cell {t : TypeId} {d : TypeDesc} (hu : P.underlying t = some d) (hd : d.isRow = false) (w : World) : (isAgg t).run P w = .ok false w := by
  unfold isAgg
  cases d <;> first | (simp [TypeDesc.isRow] at hd; done) | simp [run_underlying hu]
/-- A load of one cell that every world of the class has. -/
theorem wpQuiet_load_cell {R : Act → Prop} {rest : List Oper} {o : Oper} {a : Act} {b off : Nat} {v : Value} (hb : ∀ w, C w → w.cell? ⟨b, off, none⟩ = some v) (hgd : o.guard = none) (ty : TypeId) (x : Operand) (ho : o.op = .load ty x)
    (hx : a.eval x = .pointer (some ⟨b, off, none⟩)) (d : TypeDesc) (hu : P.underlying ty = some d) (hd : d.isRow = false)
    (h : wpQuiet P ops C R rest (a.put o.dst v)) : wpQuiet P ops C R (o :: rest) a := by
  refine wpQuiet_step fun K hK => ?_
  rw [if_pos (by simp [Region.wanted, hgd])]
  refine ⟨v, fun w hw => ?_, hK _ h⟩
  have hc := hb w hw
  unfold Oper.quietAt execOp
  simp only [ho, hx, Instr.loadAt, Instr.sureAddr, Sem.run_bind, Sem.run_pure, Result.andThen_ok, loadVar, run_isAgg_cell hu hd w, Bool.false_eq_true, if_false]
  simp [hc, Oper.quietUpon]
end
end Go

/- A region that draws its order, by a plan, inside a fence (the round of a loop over an iterator, too): operations that call nothing. Plain facts over any program. No condition. -/
namespace Go
section
variable {P : Program} {ops : Array Oper} {md : Region.Mode} {F : Fence} {n : Nat}
/-- An operation that yields a value or nothing, and calls nothing. -/
def Op.calmB : Op → Bool
  | .store .. | .entryStore .. | .mapUpdate .. | .insert .. => true
  | .lookup .. | .mapEntry .. | .alloc _ | .box .. | .build .. | .buildSlice .. | .makeMap .. | .makeSlice .. | .sliceToArrayPointer .. => true
  | .call _ => false
  | o => o.stillB
theorem calm_about {o : Oper} (h : o.op.calmB = true) (w : World) (ρ : Operand → Value) : o.about P w ρ = none := by
  unfold Oper.about
  cases ho : o.op <;> first | rfl | skip
  rw [ho] at h
  simp [Op.calmB] at h
theorem calm_semAt {o : Oper} (h : o.op.calmB = true) (ρ : Operand → Value) (ro : Option Nat) : Oper.semAt ro ρ o = execOp ρ o :=
  Oper.semAt_eq ro ρ o fun c hc => by rw [hc] at h; simp [Op.calmB, Op.stillB, Op.valued] at h
theorem calm_run {o : Oper} (h : o.op.calmB = true) (ρ : Operand → Value) (w w' : World) (x : Next) (hr : (execOp ρ o).run P w = .ok x w') : (∃ v, x = .value v) ∨ x = .skip := by
  by_cases hs : o.op.stillB = true
  · exact .inl (still_run hs ρ w w' x hr)
  · obtain ⟨dst, op, type, pos, after, guard⟩ := o
    have one : ∀ m : Sem Value, (do let x ← m; pure (Next.value x) : Sem Next).run P w = .ok x w' → (∃ v, x = .value v) ∨ x = .skip := fun m hm => by
      rw [Sem.run_bind] at hm
      generalize m.run P w = r at hm
      cases r with
      | ok y w2 => simp only [Result.andThen_ok, Sem.run_pure, Result.ok.injEq] at hm; exact .inl ⟨y, hm.1.symm⟩
      | halt y w2 => simp [Result.andThen] at hm
    have none' : ∀ m : Sem Unit, (do m; pure Next.skip : Sem Next).run P w = .ok x w' → (∃ v, x = .value v) ∨ x = .skip := fun m hm => by
      rw [Sem.run_bind] at hm
      generalize m.run P w = r at hm
      cases r with
      | ok y w2 => simp only [Result.andThen_ok, Sem.run_pure, Result.ok.injEq] at hm; exact .inr hm.1.symm
      | halt y w2 => simp [Result.andThen] at hm
    cases op
    all_goals first
      | exact absurd h hs
      | exact one _ hr
      | exact none' _ hr
      | (simp [Op.calmB] at h; done)
/-- The same ends but the machine's outgrowing. -/
def strict (Q : Exit → Act → World → Prop) : Exit → Act → World → Prop
  | .outgrown, _, _ => False
  | e, a, w => Q e a w
@[go_sem] theorem strict_normal (Q : Exit → Act → World → Prop) (a : Act) (w : World) : strict Q .normal a w = Q .normal a w := rfl
theorem opIn_of_op {Q : Exit → Act → World → Prop} {i : Nat} {K K' : Act → World → Prop} {a : Act} {w : World} (hc : (ops.all fun o => o.op.calmB) = true) (hk : ∀ a w, K a w → K' a w)
    (h : wpOp P ops (strict Q) i K a w) : wpOpIn F n P ops Q i K' a w := by
  unfold wpOp at h
  unfold wpOpIn
  cases ho : ops[i]? with
  | none => rw [ho] at h; exact hk _ _ h
  | some o =>
    rw [ho] at h
    have hco : o.op.calmB = true := by
      have := Array.all_eq_true'.1 hc o (Array.mem_of_getElem? ho)
      simpa using this
    simp only at h ⊢
    split
    · rename_i hw
      rw [if_pos hw] at h
      have hlet : ¬ LetsOut (strict Q) := fun ⟨_, _, hq⟩ => hq
      have h1 := h.resolve_right fun hh => hlet hh.2
      unfold Oper.wp at h1
      unfold Oper.wpIn
      refine ⟨fun f hf => (by rw [calm_about hco] at hf; cases hf), ?_⟩
      rw [calm_semAt hco]
      cases hr : (execOp a.eval o).run P w with
      | ok x w' =>
        rw [hr] at h1
        rcases calm_run hco _ _ _ _ hr with ⟨v, rfl⟩ | rfl
        · exact hk _ _ h1
        · exact hk _ _ h1
      | halt x w' =>
        rw [hr] at h1
        cases x <;> first | exact h1 | exact h1.elim
    · rename_i hw
      rw [if_neg hw] at h
      exact ⟨fun f hf => (by rw [calm_about hco] at hf; cases hf), hk _ _ h⟩
/-- The plain end alone. -/
def tidy (Q : Exit → Act → World → Prop) : Exit → Act → World → Prop
  | .normal, a, w => Q .normal a w
  | _, _, _ => False
theorem tidy_le (Q : Exit → Act → World → Prop) (e : Exit) (a : Act) (w : World) (h : tidy Q e a w) : Q e a w := by
  cases e <;> first | exact h | exact h.elim
@[go_sem] theorem tidy_normal (Q : Exit → Act → World → Prop) (a : Act) (w : World) : tidy Q .normal a w = Q .normal a w := rfl
theorem wpPlan_tidy {C : World → Prop} {Z : List Nat} {Q : Exit → Act → World → Prop} {a : Act} {w : World} (h : Q .normal a w) : wpPlan P ops C Z (tidy Q) [] a w := h
/-- **THE REGION, BY A PLAN, where it neither panics nor outgrows the machine.** -/
theorem wp_region_planT {id : Nat} {a : Act} {w : World} {l : List Oper} {Q : Exit → Act → World → Prop} (C : World → Prop) (Z : List Nat) (pl : List (Bool × Nat)) (hm : P.follows .mixedOrders = true)
    (hB : (Region.noSelect l.toArray && Region.planB .any l.toArray Z pl (Array.replicate l.toArray.size false) && Region.planZ Z pl true && decide (pl.length = l.toArray.size)) = true)
    (hC : C w.drew) (h : wpPlan P l.toArray C Z (tidy Q) pl a w.drew) : (Code.region id l.toArray true).wp P Q a w :=
  wp_mono (wp_region_plan C Z pl hm hB (fun _ _ _ _ _ q => q.elim) hC h) (tidy_le Q)
end
end Go

/- A region that draws its order, by a plan that branches: some operations are taken first wherever they may come, of the others each that may come next is followed. Plain facts over any program. No condition. -/
namespace Go
/-- The plan: take i first; or one of several may come (opt i r more: i, then r; or one of more; no: none else). -/
inductive PlanT where
  | done
  | take (i : Nat) (r : PlanT)
  | opt (i : Nat) (r more : PlanT)
  | no
def PlanT.heads : PlanT → List Nat
  | .opt i _ m => i :: m.heads
  | _ => []
def Region.treeB (md : Region.Mode) (ops : Array Oper) (Z : List Nat) : PlanT → Bool → Nat → Array Bool → Bool
  | .done, _, n, s => decide (n = 0) && (Region.ready md ops s).isEmpty
  | .take i r, _, n, s => match n with
    | 0 => false
    | n + 1 => (Region.ready md ops s).contains i && Region.free md ops s i && (Z.all fun z => Region.waitsFor md ops z i) && Region.treeB md ops Z r true n (s.setIfInBounds i true)
  | .opt i r m, first, n, s => match n with
    | 0 => false
    | n + 1 => (!first || decide (Region.ready md ops s = i :: m.heads)) && Region.treeB md ops Z r true n (s.setIfInBounds i true) && Region.treeB md ops Z m false (n + 1) s
  | .no, first, _, _ => !first
def Region.treeZ (Z : List Nat) : PlanT → Bool → Bool
  | .done, _ => true
  | .take _ r, c => c && Region.treeZ Z r c
  | .opt i r m, c => Region.treeZ Z r (c && !Z.contains i) && Region.treeZ Z m c
  | .no, _ => true
section
variable {P : Program} {ops : Array Oper} {md : Region.Mode} {C : World → Prop} {Z : List Nat} {Q : Exit → Act → World → Prop}
def wpTree (P : Program) (ops : Array Oper) (C : World → Prop) (Z : List Nat) (Q : Exit → Act → World → Prop) : PlanT → Act → World → Prop
  | .done, a, w => Q .normal a w
  | .take i r, a, w => match ops[i]? with
    | some o => ∃ v, YieldsC P ops C o v a ∧ (C w → wpTree P ops C Z Q r (a.put o.dst v) w)
    | none => False
  | .opt i r m, a, w => wpOp P ops Q i (fun a' w' => (i ∈ Z ∨ C w') ∧ wpTree P ops C Z Q r a' w') a w ∧ wpTree P ops C Z Q m a w
  | .no, _, _ => True
theorem anyC_of_tree (hns : Region.noSelect ops = true) (hQ : ∀ c a a' w, a'.defers = a.defers → Q (.panic c) a' w → Q (.panic c) a w) :
    ∀ (t : PlanT) (c : Bool) (n : Nat) (s : Array Bool) (a : Act) (w : World), Region.treeZ Z t c = true → (c = true → C w) → wpTree P ops C Z Q t a w →
      (Region.treeB md ops Z t true n s = true → wpAnyC P md ops C Z Q n s a w) ∧
      (∀ m, n = m + 1 → Region.treeB md ops Z t false n s = true → ∀ i ∈ t.heads, wpOp P ops Q i (fun a' w' => (i ∈ Z ∨ C w') ∧ wpAnyC P md ops C Z Q m (s.setIfInBounds i true) a' w') a w) := by
  intro t
  induction t with
  | done =>
    intro c n s a w _ _ h
    refine ⟨fun hB => ?_, fun m _ _ i hi => by cases hi⟩
    simp only [Region.treeB, Bool.and_eq_true, decide_eq_true_eq] at hB
    obtain ⟨rfl, hB⟩ := hB
    exact ⟨by simpa using hB, h⟩
  | no =>
    intro c n s a w _ _ _
    exact ⟨fun hB => by simp [Region.treeB] at hB, fun m _ _ i hi => by cases hi⟩
  | take i r ih =>
    intro c n s a w hz hC h
    refine ⟨fun hB => ?_, fun m _ _ i hi => by cases hi⟩
    cases n with
    | zero => simp [Region.treeB] at hB
    | succ n =>
      simp only [Region.treeB, Bool.and_eq_true] at hB
      simp only [Region.treeZ, Bool.and_eq_true] at hz
      obtain ⟨⟨⟨h1, h2⟩, h3⟩, h4⟩ := hB
      have hr : i ∈ Region.ready md ops s := by simpa using h1
      obtain ⟨_, oi, hoi, _⟩ := mem_ready.1 hr
      simp only [wpTree, hoi] at h
      obtain ⟨v, hy, hn⟩ := h
      exact wpAnyC_first hoi hns hQ (fun z hz => List.all_eq_true.1 h3 z hz) n s a w (Region.free_spec hoi h2) hr hy (hC hz.1) ((ih c n _ _ _ hz.2 hC (hn (hC hz.1))).1 h4)
  | opt i r m ihr ihm =>
    intro c n s a w hz hC h
    simp only [Region.treeZ, Bool.and_eq_true] at hz
    obtain ⟨h1, h2⟩ := h
    have key : ∀ k first, n = k + 1 → Region.treeB md ops Z (.opt i r m) first n s = true → ∀ j ∈ (PlanT.opt i r m).heads, wpOp P ops Q j (fun a' w' => (j ∈ Z ∨ C w') ∧ wpAnyC P md ops C Z Q k (s.setIfInBounds j true) a' w') a w := by
      intro k first hn hB j hj
      subst hn
      simp only [Region.treeB, Bool.and_eq_true] at hB
      obtain ⟨⟨_, hr⟩, hm⟩ := hB
      simp only [PlanT.heads, List.mem_cons] at hj
      rcases hj with rfl | hj
      · refine wpOp_mono (fun a' w' h' => ⟨h'.1, (ihr (c && !Z.contains j) k _ a' w' hz.1 (fun hc => ?_) h'.2).1 hr⟩) h1
        simp only [Bool.and_eq_true, Bool.not_eq_true'] at hc
        refine h'.1.resolve_left fun hmm => ?_
        rw [List.contains_iff_mem.2 hmm] at hc
        cases hc.2
      · exact (ihm c (k + 1) s a w hz.2 hC h2).2 k rfl hm j hj
    refine ⟨fun hB => ?_, fun k hk hB => key k false hk hB⟩
    cases n with
    | zero => simp [Region.treeB] at hB
    | succ n =>
      have hk := key n true rfl hB
      simp only [Region.treeB, Bool.and_eq_true, Bool.not_true, Bool.false_or, decide_eq_true_eq] at hB
      refine ⟨fun h0 => (by rw [hB.1.1] at h0; cases h0), fun j hj => ?_⟩
      rw [hB.1.1] at hj
      exact hk j hj
/-- **THE REGION, BY A PLAN THAT BRANCHES.** -/
theorem wp_region_tree {id : Nat} {a : Act} {w : World} {l : List Oper} {Q : Exit → Act → World → Prop} (C : World → Prop) (Z : List Nat) (t : PlanT) (hm : P.follows .mixedOrders = true)
    (hB : (Region.noSelect l.toArray && Region.treeB .any l.toArray Z t true l.toArray.size (Array.replicate l.toArray.size false) && Region.treeZ Z t true) = true)
    (hC : C w.drew) (h : wpTree P l.toArray C Z (tidy Q) t a w.drew) : (Code.region id l.toArray true).wp P Q a w := by
  simp only [Bool.and_eq_true] at hB
  refine wp_mono (Q := tidy Q) ?_ (tidy_le Q)
  refine wp_region_any hm ?_
  exact wpAny_of_C _ _ _ _ ((anyC_of_tree hB.1.1 (fun _ _ _ _ _ q => q.elim) t true _ _ a w.drew hB.2 (fun _ => hC) h).1 hB.1.2)
def PlanT.takes : List Nat → PlanT → PlanT
  | [], r => r
  | i :: is, r => .take i (PlanT.takes is r)
theorem wpTree_take {w : World} (is : List Nat) (r : PlanT) : ∀ (a : Act), ((is.filterMap fun i => ops[i]?).all fun o => o.op.stillB) = true → (is.all fun i => decide (i < ops.size)) = true →
    C w → wpQuiet P ops C (fun a' => wpTree P ops C Z Q r a' w) (is.filterMap fun i => ops[i]?) a → wpTree P ops C Z Q (PlanT.takes is r) a w := by
  induction is with
  | nil => intro a _ _ _ h; exact h
  | cons i is ih =>
    intro a hs hlt hC h
    simp only [List.all_cons, Bool.and_eq_true, decide_eq_true_eq] at hlt
    have hi : ops[i]? = some ops[i] := Array.getElem?_eq_getElem hlt.1
    simp only [List.filterMap_cons, hi, List.all_cons, Bool.and_eq_true] at hs h
    have hq : qOp P ops C i (wpQuiet P ops C (fun a' => wpTree P ops C Z Q r a' w) (is.filterMap fun i => ops[i]?)) a := by unfold qOp; simp only [hi]; exact h
    obtain ⟨v, hy, hK⟩ := yieldsIn_of_qOp hi hq
    simp only [PlanT.takes, wpTree, hi]
    exact ⟨v, yieldsC_of hs.1 hy, fun _ => ih _ hs.2 hlt.2 hC hK⟩
/-- Operations that are taken first, read in a class of worlds. -/
theorem wpTree_takeL {l : List Oper} {w : World} (is : List Nat) (r : PlanT) (a : Act) (hs : ((is.filterMap fun i => l[i]?).all fun o => o.op.stillB) = true) (hlt : (is.all fun i => decide (i < l.length)) = true)
    (hC : C w) (h : wpQuiet P l.toArray C (fun a' => wpTree P l.toArray C Z Q r a' w) (is.filterMap fun i => l[i]?) a) : wpTree P l.toArray C Z Q (PlanT.takes is r) a w := by
  have e : (is.filterMap fun i => l.toArray[i]?) = is.filterMap fun i => l[i]? := by congr 1; funext i; exact List.getElem?_toArray ..
  exact wpTree_take is r a (by rw [e]; exact hs) (by simpa using hlt) hC (by rw [e]; exact h)
theorem wpTree_pure {l : List Oper} {w : World} (is : List Nat) (r : PlanT) : ∀ (a : Act), ((is.filterMap fun i => l[i]?).all fun o => o.op.stillB) = true → (is.all fun i => decide (i < l.length)) = true →
    wpQuiet P l.toArray (fun _ => True) (fun a' => wpTree P l.toArray C Z Q r a' w) (is.filterMap fun i => l[i]?) a → wpTree P l.toArray C Z Q (PlanT.takes is r) a w := by
  induction is with
  | nil => intro a _ _ h; exact h
  | cons i is ih =>
    intro a hs hlt h
    simp only [List.all_cons, Bool.and_eq_true, decide_eq_true_eq] at hlt
    have hi : l[i]? = some l[i] := List.getElem?_eq_getElem hlt.1
    have hi' : l.toArray[i]? = some l[i] := by rw [List.getElem?_toArray]; exact hi
    simp only [List.filterMap_cons, hi, List.all_cons, Bool.and_eq_true] at hs h
    have hq : qOp P l.toArray (fun _ => True) i (wpQuiet P l.toArray (fun _ => True) (fun a' => wpTree P l.toArray C Z Q r a' w) (is.filterMap fun i => l[i]?)) a := by unfold qOp; simp only [hi']; exact h
    obtain ⟨v, hy, hK⟩ := yieldsIn_of_qOp hi' hq
    have hy' := yieldsC_of hs.1 hy
    simp only [PlanT.takes, wpTree, hi']
    refine ⟨v, ?_, fun _ => ih _ hs.2 hlt.2 hK⟩
    rcases hy' with ⟨h1, h2⟩ | h1
    · exact .inl ⟨h1, fun w _ => h2 w trivial⟩
    · exact .inr h1
/-- What is asked behind an operation that came. -/
def TreeQ (P : Program) (ops : Array Oper) (C : World → Prop) (Z : List Nat) (Q : Exit → Act → World → Prop) (i : Nat) (r : PlanT) : Exit → Act → World → Prop
  | .normal, a, w => (i ∈ Z ∨ C w) ∧ wpTree P ops C Z Q r a w
  | e, a, w => Q e a w
theorem wpTree_opt {l : List Oper} {a : Act} {w : World} {i : Nat} {r m : PlanT} (o : Oper) (ho : l[i]? = some o) (h : wpList P l.toArray (TreeQ P l.toArray C Z Q i r) [o] a w) (hm : wpTree P l.toArray C Z Q m a w) : wpTree P l.toArray C Z Q (.opt i r m) a w := by
  refine ⟨?_, hm⟩
  have ho' : l.toArray[i]? = some o := by rw [List.getElem?_toArray]; exact ho
  unfold wpOp
  simp only [ho']
  unfold wpList at h
  have hmono : ∀ {a : Act} {w : World}, o.wp P a w (wpList P l.toArray (TreeQ P l.toArray C Z Q i r) []) (TreeQ P l.toArray C Z Q i r) → o.wp P a w (fun a' w' => (i ∈ Z ∨ C w') ∧ wpTree P l.toArray C Z Q r a' w') Q := by
    intro a w h
    unfold Oper.wp at h ⊢
    generalize (execOp a.eval o).run P w = rr at *
    cases rr with
    | ok n w' =>
      cases n <;> simp only [Oper.upon] at h ⊢
      case value u => exact h
      case skip => exact h
      case defer d => exact h
      case enter f args =>
        refine Calls.mono h fun e w'' he => ?_
        cases e <;> exact he
      case row row args => exact Rows.mono h fun u w'' he => he
    | halt x w' => cases x <;> simp only [Oper.upon] at h ⊢; exact h
  split
  · rename_i hw
    rw [if_pos hw] at h
    rcases h with h | ⟨h1, h2⟩
    · exact .inl (hmono h)
    · exact .inr ⟨h1, h2⟩
  · rename_i hw
    rw [if_neg hw] at h
    exact h
/-- The only one that may come. -/
theorem wpTree_one {l : List Oper} {a : Act} {w : World} {i : Nat} {r : PlanT} (o : Oper) (ho : l[i]? = some o) (h : wpList P l.toArray (TreeQ P l.toArray C Z Q i r) [o] a w) : wpTree P l.toArray C Z Q (.opt i r .no) a w :=
  wpTree_opt o ho h trivial
theorem wpTree_done {a : Act} {w : World} (h : Q .normal a w) : wpTree P ops C Z (tidy Q) .done a w := h
theorem TreeQ.in_ {a : Act} {w : World} {i : Nat} {r : PlanT} (hC : C w) (h : wpTree P ops C Z Q r a w) : TreeQ P ops C Z Q i r .normal a w := ⟨.inr hC, h⟩
theorem TreeQ.out {a : Act} {w : World} {i : Nat} {r : PlanT} (hz : Z.contains i = true) (h : wpTree P ops C Z Q r a w) : TreeQ P ops C Z Q i r .normal a w := ⟨.inl (by simpa using hz), h⟩
/-- What branches share: the rest is shown once. (By 'apply': G is found in the first branch.) -/
theorem share {α : Type} {F G : α → World → Prop} {goal : Prop} (main : (∀ x w, F x w → G x w) → goal) (tail : ∀ x w, F x w → G x w) : goal := main tail
end
end Go
