/- A region that draws its order, by a plan, inside a fence (the round of a loop over an iterator, too): operations that call nothing. Plain facts over any program. No condition. -/
import Derived.Test.YtkjcidbhepminaaDoorPlan
import Derived.OrdersIn
namespace Go
section
variable {P : Program} {ops : Array Oper} {md : Region.Mode} {F : Fence} {n : Nat}
/-- An operation that yields a value or nothing, and calls nothing. -/
def Op.calmB : Op → Bool
  | .store .. => true
  | .call _ => false
  | o => o.stillB
theorem calm_about {o : Oper} (h : o.op.calmB = true) (w : World) (ρ : Operand → Value) : o.about P w ρ = none := by
  unfold Oper.about
  cases ho : o.op <;> first | rfl | skip
  rw [ho] at h
  simp [Op.calmB] at h
theorem calm_semAt {o : Oper} (h : o.op.calmB = true) (ρ : Operand → Value) (ro : Option Nat) : Oper.semAt ro ρ o = execOp ρ o :=
  Oper.semAt_eq ro ρ o fun c hc => by rw [hc] at h; simp [Op.calmB, Op.stillB, Op.valued] at h
theorem calm_run {o : Oper} (h : o.op.calmB = true) (ρ : Operand → Value) (w w' : World) (x : Next) (hr : (execOp ρ o).run P w = .ok x w') : (∃ v, x = .value v) ∨ x = .skip := by
  by_cases hs : o.op.stillB = true
  · exact .inl (still_run hs ρ w w' x hr)
  · obtain ⟨dst, op, type, pos, after, guard⟩ := o
    cases op
    case store t x y =>
      right
      simp only [execOp, Sem.run_bind] at hr
      generalize (Instr.storeAt _ _ _).run P w = r at hr
      cases r with
      | ok x w2 => simp only [Result.andThen_ok, Sem.run_pure, Result.ok.injEq] at hr; exact hr.1.symm
      | halt x w2 => simp [Result.andThen] at hr
    all_goals first | exact absurd h hs | (simp [Op.calmB] at h; done)
/-- The same ends but the machine's outgrowing. -/
def strict (Q : Exit → Act → World → Prop) : Exit → Act → World → Prop
  | .outgrown, _, _ => False
  | e, a, w => Q e a w
theorem strict_le (Q : Exit → Act → World → Prop) (e : Exit) (a : Act) (w : World) (h : strict Q e a w) : Q e a w := by
  cases e <;> first | exact h | exact h.elim
@[go_sem] theorem strict_normal (Q : Exit → Act → World → Prop) (a : Act) (w : World) : strict Q .normal a w = Q .normal a w := rfl
theorem opIn_of_op {Q : Exit → Act → World → Prop} {i : Nat} {K K' : Act → World → Prop} {a : Act} {w : World} (hc : (ops.all fun o => o.op.calmB) = true) (hk : ∀ a w, K a w → K' a w)
    (h : wpOp P ops (strict Q) i K a w) : wpOpIn F n P ops Q i K' a w := by
  unfold wpOp at h
  unfold wpOpIn
  cases ho : ops[i]? with
  | none => rw [ho] at h; exact hk _ _ h
  | some o =>
    rw [ho] at h
    have hco : o.op.calmB = true := by
      have := Array.all_eq_true'.1 hc o (Array.mem_of_getElem? ho)
      simpa using this
    simp only at h ⊢
    split
    · rename_i hw
      rw [if_pos hw] at h
      have hlet : ¬ LetsOut (strict Q) := fun ⟨_, _, hq⟩ => hq
      have h1 := h.resolve_right fun hh => hlet hh.2
      unfold Oper.wp at h1
      unfold Oper.wpIn
      refine ⟨fun f hf => (by rw [calm_about hco] at hf; cases hf), ?_⟩
      rw [calm_semAt hco]
      cases hr : (execOp a.eval o).run P w with
      | ok x w' =>
        rw [hr] at h1
        rcases calm_run hco _ _ _ _ hr with ⟨v, rfl⟩ | rfl
        · exact hk _ _ h1
        · exact hk _ _ h1
      | halt x w' =>
        rw [hr] at h1
        cases x <;> first | exact h1 | exact h1.elim
    · rename_i hw
      rw [if_neg hw] at h
      exact ⟨fun f hf => (by rw [calm_about hco] at hf; cases hf), hk _ _ h⟩
theorem anyIn_of_any {Q : Exit → Act → World → Prop} (hc : (ops.all fun o => o.op.calmB) = true) : ∀ (fuel : Nat) (s : Array Bool) (a : Act) (w : World), wpAny P md ops (strict Q) fuel s a w → wpAnyIn F n P md ops Q fuel s a w
  | 0, _, _, _, h => h
  | fuel + 1, _, _, _, h => ⟨h.1, fun i hi => opIn_of_op hc (fun a w => anyIn_of_any hc fuel _ a w) (h.2 i hi)⟩
/-- The plain end alone. -/
def tidy (Q : Exit → Act → World → Prop) : Exit → Act → World → Prop
  | .normal, a, w => Q .normal a w
  | _, _, _ => False
theorem tidy_le (Q : Exit → Act → World → Prop) (e : Exit) (a : Act) (w : World) (h : tidy Q e a w) : Q e a w := by
  cases e <;> first | exact h | exact h.elim
@[go_sem] theorem tidy_normal (Q : Exit → Act → World → Prop) (a : Act) (w : World) : tidy Q .normal a w = Q .normal a w := rfl
theorem wpPlan_tidy {C : World → Prop} {Z : List Nat} {Q : Exit → Act → World → Prop} {a : Act} {w : World} (h : Q .normal a w) : wpPlan P ops C Z (tidy Q) [] a w := h
theorem strict_tidy (Q : Exit → Act → World → Prop) : strict (tidy Q) = tidy Q := by
  funext e a w
  cases e <;> rfl
/-- **THE REGION, BY A PLAN, where it neither panics nor outgrows the machine.** -/
theorem wp_region_planT {id : Nat} {a : Act} {w : World} {l : List Oper} {Q : Exit → Act → World → Prop} (C : World → Prop) (Z : List Nat) (pl : List (Bool × Nat)) (hm : P.follows .mixedOrders = true)
    (hB : (Region.noSelect l.toArray && Region.planB .any l.toArray Z pl (Array.replicate l.toArray.size false) && Region.planZ Z pl true && decide (pl.length = l.toArray.size)) = true)
    (hC : C w.drew) (h : wpPlan P l.toArray C Z (tidy Q) pl a w.drew) : (Code.region id l.toArray true).wp P Q a w :=
  wp_mono (wp_region_plan C Z pl hm hB (fun _ _ _ _ _ q => q.elim) hC h) (tidy_le Q)
/-- **THE REGION, BY A PLAN, INSIDE A FENCE.** -/
theorem wpIn_region_planT {id : Nat} {a : Act} {w : World} {l : List Oper} {Q : Exit → Act → World → Prop} (C : World → Prop) (Z : List Nat) (pl : List (Bool × Nat)) (hm : P.follows .mixedOrders = true)
    (hB : (Region.noSelect l.toArray && Region.planB .any l.toArray Z pl (Array.replicate l.toArray.size false) && Region.planZ Z pl true && decide (pl.length = l.toArray.size)) = true)
    (hc : (l.toArray.all fun o => o.op.calmB) = true)
    (hC : C w.drew) (h : wpPlan P l.toArray C Z (tidy Q) pl a w.drew) : (Code.region id l.toArray true).wpIn F n P Q a w := by
  simp only [Bool.and_eq_true, decide_eq_true_eq] at hB
  obtain ⟨⟨⟨h1, h2⟩, h3⟩, h4⟩ := hB
  refine wpIn_mono (wpIn_region_any (Q := tidy Q) hm (anyIn_of_any hc _ _ _ _ ?_)) (tidy_le Q)
  rw [← h4, strict_tidy]
  exact wpAny_of_C _ _ _ _ (anyC_of_plan h1 (fun _ _ _ _ _ q => q.elim) pl true _ a w.drew (by rw [h4]; exact h2) h3 (fun _ => hC) h)
end
end Go
