/- The loose sectors of a disk: a map's entries against a plain function. Plain facts. No condition. -/
import Derived.Test.YtgkljncigbiffaaDoorMTableTurned6
namespace Go
open Go.RowKit Go.MapKept
theorem mfind_none (a : Int) : ∀ (es : List MapEntry) (i : Nat), mfind es a i = none → ∀ e ∈ es, e.key ≠ .int .i64 a
  | [], _, _, e, he => by cases he
  | x :: es, i, h, e, he => by
    unfold mfind at h
    split at h
    · rename_i b hb
      by_cases hab : a = b
      · rw [if_pos hab] at h; cases h
      · rw [if_neg hab] at h
        cases he with
        | head => rw [hb]; intro e; injection e with _ e; exact hab e.symm
        | tail _ he => exact mfind_none a es _ h e he
    · rename_i hn
      cases he with
      | head => exact fun hk => hn a hk
      | tail _ he => exact mfind_none a es _ h e he
/-- The elements of a map of sectors. -/
def SecVals (es : List MapEntry) : Prop := ∀ e ∈ es, ∃ l : List UInt8, l.length = 256 ∧ e.val = .agg (l.map u8v).toArray
theorem SecVals.put {es : Array MapEntry} {c : Nat} {a : Int} {l : List UInt8} (h : SecVals es.toList) (hl : l.length = 256) : SecVals (mput es c a (.agg (l.map u8v).toArray)).1.toList := by
  unfold mput
  split
  · intro e he
    rw [Array.toList_modify] at he
    obtain ⟨k, hk, rfl⟩ := List.getElem_of_mem he
    rw [List.getElem_modify]
    split
    · exact ⟨l, hl, rfl⟩
    · exact h _ (List.getElem_mem _)
  · intro e he
    rw [Array.toList_push, List.mem_append, List.mem_singleton] at he
    rcases he with he | rfl
    · exact h e he
    · exact ⟨l, hl, rfl⟩
theorem SecVals.get {es : Array MapEntry} (h : SecVals es.toList) (a : Int) : ∃ l : List UInt8, l.length = 256 ∧ (mget es a).getD (.agg ((List.replicate 256 (0 : UInt8)).map u8v).toArray) = .agg (l.map u8v).toArray := by
  unfold mget
  cases hm : mfind es.toList a 0 with
  | none => exact ⟨List.replicate 256 0, List.length_replicate .., rfl⟩
  | some p =>
    obtain ⟨i, v⟩ := p
    obtain ⟨_, e, h1, _, h3⟩ := mfind_lt a es.toList 0 i v hm
    obtain ⟨l, h4, h5⟩ := h e (List.mem_of_getElem? h1)
    exact ⟨l, h4, by rw [← h5, h3]; rfl⟩
/-- A sector's bytes. -/
def sec (L : List UInt8) (i : Nat) : List UInt8 := (L.drop (256 * i)).take 256
/-- A map's entries are a function's values. -/
structure OldIs (es : Array MapEntry) (c : Nat) (old : Nat → Option (List UInt8)) : Prop where
  stamped : Stamped es c
  ent : ∀ e ∈ es.toList, ∃ (k : Nat) (l : List UInt8), e.key = .int .i64 (k : Int) ∧ old k = some l ∧ l.length = 256 ∧ e.val = .agg (l.map u8v).toArray
  all : ∀ k l, old k = some l → ∃ e ∈ es.toList, e.key = .int .i64 (k : Int)
section
variable {es : Array MapEntry} {c : Nat} {old : Nat → Option (List UInt8)}
theorem OldIs.nil (c : Nat) : OldIs #[] c fun _ => none := ⟨stamped_empty c, fun e he => by simp at he, fun k l h => by cases h⟩
theorem OldIs.keys (h : OldIs es c old) : IntKeys es.toList := fun e he => by
  obtain ⟨k, l, h1, _⟩ := h.ent e he
  exact ⟨k, h1⟩
theorem OldIs.vals (h : OldIs es c old) : SecVals es.toList := fun e he => by
  obtain ⟨k, l, _, _, h1, h2⟩ := h.ent e he
  exact ⟨l, h1, h2⟩
theorem OldIs.get (h : OldIs es c old) (k : Nat) : mget es (k : Int) = (old k).map fun l => .agg (l.map u8v).toArray := by
  unfold mget
  cases hm : mfind es.toList (k : Int) 0 with
  | none =>
    cases ho : old k with
    | none => rfl
    | some l =>
      obtain ⟨e, he, hk⟩ := h.all k l ho
      exact absurd hk (mfind_none _ _ _ hm e he)
  | some p =>
    obtain ⟨i, v⟩ := p
    obtain ⟨_, e, h1, h2, h3⟩ := mfind_lt _ es.toList 0 i v hm
    obtain ⟨k', l, h4, h5, _, h6⟩ := h.ent e (List.mem_of_getElem? h1)
    rw [h2] at h4
    injection h4 with _ h4
    obtain rfl : k = k' := by omega
    rw [h5, ← h3, h6]
    rfl
theorem OldIs.len (h : OldIs es c old) {k : Nat} {l : List UInt8} (hk : old k = some l) : l.length = 256 := by
  obtain ⟨e, he, h1⟩ := h.all k l hk
  obtain ⟨k', l', h2, h3, h4, _⟩ := h.ent e he
  rw [h1] at h2
  injection h2 with _ h2
  obtain rfl : k = k' := by omega
  rw [hk] at h3
  injection h3 with h3
  rw [h3, h4]
/-- One more. -/
def oldUp (old : Nat → Option (List UInt8)) (k : Nat) (l : List UInt8) : Nat → Option (List UInt8) := fun j => if j = k then some l else old j
theorem OldIs.put (h : OldIs es c old) {k : Nat} {l : List UInt8} (hk : old k = none) (hl : l.length = 256) :
    OldIs (mput es c (k : Int) (.agg (l.map u8v).toArray)).1 (mput es c (k : Int) (.agg (l.map u8v).toArray)).2 (oldUp old k l) := by
  have hm : mfind es.toList (k : Int) 0 = none := by
    have h1 := h.get k
    rw [hk] at h1
    unfold mget at h1
    cases hm : mfind es.toList (k : Int) 0 with
    | none => rfl
    | some p => rw [hm] at h1; cases h1
  have hno := mfind_none _ _ _ hm
  unfold mput
  rw [hm]
  refine ⟨stamped_push h.stamped hno, fun e he => ?_, fun j m hj => ?_⟩
  · rw [Array.toList_push, List.mem_append, List.mem_singleton] at he
    rcases he with he | rfl
    · obtain ⟨k', l', h1, h2, h3⟩ := h.ent e he
      refine ⟨k', l', h1, ?_, h3⟩
      unfold oldUp
      rw [if_neg (fun e1 => by rw [e1, hk] at h2; cases h2)]
      exact h2
    · exact ⟨k, l, rfl, by unfold oldUp; rw [if_pos rfl], hl, rfl⟩
  · rw [Array.toList_push]
    unfold oldUp at hj
    by_cases hjk : j = k
    · exact ⟨_, List.mem_append_right _ (List.mem_singleton.2 rfl), by rw [hjk]⟩
    · rw [if_neg hjk] at hj
      obtain ⟨e, he, h1⟩ := h.all j m hj
      exact ⟨e, List.mem_append_left _ he, h1⟩
/-- What is loose when n sectors from at on were written over the bytes L. -/
def oldW (old : Nat → Option (List UInt8)) (L : List UInt8) (at_ n : Nat) : Nat → Option (List UInt8) := fun k => if at_ ≤ k ∧ k < at_ + n then some ((old k).getD (sec L k)) else old k
theorem oldW_zero (L : List UInt8) (at_ : Nat) : oldW old L at_ 0 = old := by
  funext k; unfold oldW; rw [if_neg (by omega)]
theorem oldW_at {L : List UInt8} {at_ n : Nat} : oldW old L at_ n (at_ + n) = old (at_ + n) := by unfold oldW; rw [if_neg (by omega)]
theorem oldW_has {L : List UInt8} {at_ n : Nat} {l : List UInt8} (h : old (at_ + n) = some l) : oldW old L at_ (n + 1) = oldW old L at_ n := by
  funext k
  unfold oldW
  by_cases hk : k = at_ + n
  · subst hk; rw [if_pos (by omega), if_neg (by omega), h]; rfl
  · by_cases h1 : at_ ≤ k ∧ k < at_ + n
    · rw [if_pos h1, if_pos (by omega)]
    · rw [if_neg h1, if_neg (by omega)]
theorem oldW_new {L : List UInt8} {at_ n : Nat} (h : old (at_ + n) = none) : oldUp (oldW old L at_ n) (at_ + n) (sec L (at_ + n)) = oldW old L at_ (n + 1) := by
  funext k
  unfold oldUp oldW
  by_cases hk : k = at_ + n
  · subst hk; rw [if_pos rfl, if_pos (by omega), h]; rfl
  · rw [if_neg hk]
    by_cases h1 : at_ ≤ k ∧ k < at_ + n
    · rw [if_pos h1, if_pos (by omega)]
    · rw [if_neg h1, if_neg (by omega)]
theorem sec_wr_behind {L b : List UInt8} {at_ i : Nat} (h : 256 * at_ ≤ L.length) (hb : 256 * i ≤ b.length) : sec (wr L (256 * at_) (b.take (256 * i))) (at_ + i) = sec L (at_ + i) := by
  unfold sec
  have e : 256 * (at_ + i) = 256 * at_ + (b.take (256 * i)).length + 0 := by rw [List.length_take]; omega
  rw [e, wr_drop h]
end
end Go

/- A region that draws its order, by a plan that branches: some operations are taken first wherever they may come, of the others each that may come next is followed. Plain facts over any program. No condition. -/
namespace Go
/-- The plan: take i first; or one of several may come (opt i r more: i, then r; or one of more; no: none else). -/
inductive PlanT where
  | done
  | take (i : Nat) (r : PlanT)
  | opt (i : Nat) (r more : PlanT)
  | no
def PlanT.heads : PlanT → List Nat
  | .opt i _ m => i :: m.heads
  | _ => []
def Region.treeB (md : Region.Mode) (ops : Array Oper) (Z : List Nat) : PlanT → Bool → Nat → Array Bool → Bool
  | .done, _, n, s => decide (n = 0) && (Region.ready md ops s).isEmpty
  | .take i r, _, n, s => match n with
    | 0 => false
    | n + 1 => (Region.ready md ops s).contains i && Region.free md ops s i && (Z.all fun z => Region.waitsFor md ops z i) && Region.treeB md ops Z r true n (s.setIfInBounds i true)
  | .opt i r m, first, n, s => match n with
    | 0 => false
    | n + 1 => (!first || decide (Region.ready md ops s = i :: m.heads)) && Region.treeB md ops Z r true n (s.setIfInBounds i true) && Region.treeB md ops Z m false (n + 1) s
  | .no, first, _, _ => !first
def Region.treeZ (Z : List Nat) : PlanT → Bool → Bool
  | .done, _ => true
  | .take _ r, c => c && Region.treeZ Z r c
  | .opt i r m, c => Region.treeZ Z r (c && !Z.contains i) && Region.treeZ Z m c
  | .no, _ => true
section
variable {P : Program} {ops : Array Oper} {md : Region.Mode} {C : World → Prop} {Z : List Nat} {Q : Exit → Act → World → Prop}
def wpTree (P : Program) (ops : Array Oper) (C : World → Prop) (Z : List Nat) (Q : Exit → Act → World → Prop) : PlanT → Act → World → Prop
  | .done, a, w => Q .normal a w
  | .take i r, a, w => match ops[i]? with
    | some o => ∃ v, YieldsC P ops C o v a ∧ (C w → wpTree P ops C Z Q r (a.put o.dst v) w)
    | none => False
  | .opt i r m, a, w => wpOp P ops Q i (fun a' w' => (i ∈ Z ∨ C w') ∧ wpTree P ops C Z Q r a' w') a w ∧ wpTree P ops C Z Q m a w
  | .no, _, _ => True
theorem anyC_of_tree (hns : Region.noSelect ops = true) (hQ : ∀ c a a' w, a'.defers = a.defers → Q (.panic c) a' w → Q (.panic c) a w) :
    ∀ (t : PlanT) (c : Bool) (n : Nat) (s : Array Bool) (a : Act) (w : World), Region.treeZ Z t c = true → (c = true → C w) → wpTree P ops C Z Q t a w →
      (Region.treeB md ops Z t true n s = true → wpAnyC P md ops C Z Q n s a w) ∧
      (∀ m, n = m + 1 → Region.treeB md ops Z t false n s = true → ∀ i ∈ t.heads, wpOp P ops Q i (fun a' w' => (i ∈ Z ∨ C w') ∧ wpAnyC P md ops C Z Q m (s.setIfInBounds i true) a' w') a w) := by
  intro t
  induction t with
  | done =>
    intro c n s a w _ _ h
    refine ⟨fun hB => ?_, fun m _ _ i hi => by cases hi⟩
    simp only [Region.treeB, Bool.and_eq_true, decide_eq_true_eq] at hB
    obtain ⟨rfl, hB⟩ := hB
    exact ⟨by simpa using hB, h⟩
  | no =>
    intro c n s a w _ _ _
    exact ⟨fun hB => by simp [Region.treeB] at hB, fun m _ _ i hi => by cases hi⟩
  | take i r ih =>
    intro c n s a w hz hC h
    refine ⟨fun hB => ?_, fun m _ _ i hi => by cases hi⟩
    cases n with
    | zero => simp [Region.treeB] at hB
    | succ n =>
      simp only [Region.treeB, Bool.and_eq_true] at hB
      simp only [Region.treeZ, Bool.and_eq_true] at hz
      obtain ⟨⟨⟨h1, h2⟩, h3⟩, h4⟩ := hB
      have hr : i ∈ Region.ready md ops s := by simpa using h1
      obtain ⟨_, oi, hoi, _⟩ := mem_ready.1 hr
      simp only [wpTree, hoi] at h
      obtain ⟨v, hy, hn⟩ := h
      exact wpAnyC_first hoi hns hQ (fun z hz => List.all_eq_true.1 h3 z hz) n s a w (Region.free_spec hoi h2) hr hy (hC hz.1) ((ih c n _ _ _ hz.2 hC (hn (hC hz.1))).1 h4)
  | opt i r m ihr ihm =>
    intro c n s a w hz hC h
    simp only [Region.treeZ, Bool.and_eq_true] at hz
    obtain ⟨h1, h2⟩ := h
    have key : ∀ k first, n = k + 1 → Region.treeB md ops Z (.opt i r m) first n s = true → ∀ j ∈ (PlanT.opt i r m).heads, wpOp P ops Q j (fun a' w' => (j ∈ Z ∨ C w') ∧ wpAnyC P md ops C Z Q k (s.setIfInBounds j true) a' w') a w := by
      intro k first hn hB j hj
      subst hn
      simp only [Region.treeB, Bool.and_eq_true] at hB
      obtain ⟨⟨_, hr⟩, hm⟩ := hB
      simp only [PlanT.heads, List.mem_cons] at hj
      rcases hj with rfl | hj
      · refine wpOp_mono (fun a' w' h' => ⟨h'.1, (ihr (c && !Z.contains j) k _ a' w' hz.1 (fun hc => ?_) h'.2).1 hr⟩) h1
        simp only [Bool.and_eq_true, Bool.not_eq_true'] at hc
        refine h'.1.resolve_left fun hmm => ?_
        rw [List.contains_iff_mem.2 hmm] at hc
        cases hc.2
      · exact (ihm c (k + 1) s a w hz.2 hC h2).2 k rfl hm j hj
    refine ⟨fun hB => ?_, fun k hk hB => key k false hk hB⟩
    cases n with
    | zero => simp [Region.treeB] at hB
    | succ n =>
      have hk := key n true rfl hB
      simp only [Region.treeB, Bool.and_eq_true, Bool.not_true, Bool.false_or, decide_eq_true_eq] at hB
      refine ⟨fun h0 => (by rw [hB.1.1] at h0; cases h0), fun j hj => ?_⟩
      rw [hB.1.1] at hj
      exact hk j hj
/-- **THE REGION, BY A PLAN THAT BRANCHES.** -/
theorem wp_region_tree {id : Nat} {a : Act} {w : World} {l : List Oper} {Q : Exit → Act → World → Prop} (C : World → Prop) (Z : List Nat) (t : PlanT) (hm : P.follows .mixedOrders = true)
    (hB : (Region.noSelect l.toArray && Region.treeB .any l.toArray Z t true l.toArray.size (Array.replicate l.toArray.size false) && Region.treeZ Z t true) = true)
    (hC : C w.drew) (h : wpTree P l.toArray C Z (tidy Q) t a w.drew) : (Code.region id l.toArray true).wp P Q a w := by
  simp only [Bool.and_eq_true] at hB
  refine wp_mono (Q := tidy Q) ?_ (tidy_le Q)
  refine wp_region_any hm ?_
  exact wpAny_of_C _ _ _ _ ((anyC_of_tree hB.1.1 (fun _ _ _ _ _ q => q.elim) t true _ _ a w.drew hB.2 (fun _ => hC) h).1 hB.1.2)
def PlanT.takes : List Nat → PlanT → PlanT
  | [], r => r
  | i :: is, r => .take i (PlanT.takes is r)
theorem wpTree_take {w : World} (is : List Nat) (r : PlanT) : ∀ (a : Act), ((is.filterMap fun i => ops[i]?).all fun o => o.op.stillB) = true → (is.all fun i => decide (i < ops.size)) = true →
    C w → wpQuiet P ops C (fun a' => wpTree P ops C Z Q r a' w) (is.filterMap fun i => ops[i]?) a → wpTree P ops C Z Q (PlanT.takes is r) a w := by
  induction is with
  | nil => intro a _ _ _ h; exact h
  | cons i is ih =>
    intro a hs hlt hC h
    simp only [List.all_cons, Bool.and_eq_true, decide_eq_true_eq] at hlt
    have hi : ops[i]? = some ops[i] := Array.getElem?_eq_getElem hlt.1
    simp only [List.filterMap_cons, hi, List.all_cons, Bool.and_eq_true] at hs h
    have hq : qOp P ops C i (wpQuiet P ops C (fun a' => wpTree P ops C Z Q r a' w) (is.filterMap fun i => ops[i]?)) a := by unfold qOp; simp only [hi]; exact h
    obtain ⟨v, hy, hK⟩ := yieldsIn_of_qOp hi hq
    simp only [PlanT.takes, wpTree, hi]
    exact ⟨v, yieldsC_of hs.1 hy, fun _ => ih _ hs.2 hlt.2 hC hK⟩
/-- Operations that are taken first, read in a class of worlds. -/
theorem wpTree_takeL {l : List Oper} {w : World} (is : List Nat) (r : PlanT) (a : Act) (hs : ((is.filterMap fun i => l[i]?).all fun o => o.op.stillB) = true) (hlt : (is.all fun i => decide (i < l.length)) = true)
    (hC : C w) (h : wpQuiet P l.toArray C (fun a' => wpTree P l.toArray C Z Q r a' w) (is.filterMap fun i => l[i]?) a) : wpTree P l.toArray C Z Q (PlanT.takes is r) a w := by
  have e : (is.filterMap fun i => l.toArray[i]?) = is.filterMap fun i => l[i]? := by congr 1; funext i; exact List.getElem?_toArray ..
  exact wpTree_take is r a (by rw [e]; exact hs) (by simpa using hlt) hC (by rw [e]; exact h)
theorem wpTree_pure {l : List Oper} {w : World} (is : List Nat) (r : PlanT) : ∀ (a : Act), ((is.filterMap fun i => l[i]?).all fun o => o.op.stillB) = true → (is.all fun i => decide (i < l.length)) = true →
    wpQuiet P l.toArray (fun _ => True) (fun a' => wpTree P l.toArray C Z Q r a' w) (is.filterMap fun i => l[i]?) a → wpTree P l.toArray C Z Q (PlanT.takes is r) a w := by
  induction is with
  | nil => intro a _ _ h; exact h
  | cons i is ih =>
    intro a hs hlt h
    simp only [List.all_cons, Bool.and_eq_true, decide_eq_true_eq] at hlt
    have hi : l[i]? = some l[i] := List.getElem?_eq_getElem hlt.1
    have hi' : l.toArray[i]? = some l[i] := by rw [List.getElem?_toArray]; exact hi
    simp only [List.filterMap_cons, hi, List.all_cons, Bool.and_eq_true] at hs h
    have hq : qOp P l.toArray (fun _ => True) i (wpQuiet P l.toArray (fun _ => True) (fun a' => wpTree P l.toArray C Z Q r a' w) (is.filterMap fun i => l[i]?)) a := by unfold qOp; simp only [hi']; exact h
    obtain ⟨v, hy, hK⟩ := yieldsIn_of_qOp hi' hq
    have hy' := yieldsC_of hs.1 hy
    simp only [PlanT.takes, wpTree, hi']
    refine ⟨v, ?_, fun _ => ih _ hs.2 hlt.2 hK⟩
    rcases hy' with ⟨h1, h2⟩ | h1
    · exact .inl ⟨h1, fun w _ => h2 w trivial⟩
    · exact .inr h1
/-- What is asked behind an operation that came. -/
def TreeQ (P : Program) (ops : Array Oper) (C : World → Prop) (Z : List Nat) (Q : Exit → Act → World → Prop) (i : Nat) (r : PlanT) : Exit → Act → World → Prop
  | .normal, a, w => (i ∈ Z ∨ C w) ∧ wpTree P ops C Z Q r a w
  | e, a, w => Q e a w
theorem wpTree_opt {l : List Oper} {a : Act} {w : World} {i : Nat} {r m : PlanT} (o : Oper) (ho : l[i]? = some o) (h : wpList P l.toArray (TreeQ P l.toArray C Z Q i r) [o] a w) (hm : wpTree P l.toArray C Z Q m a w) : wpTree P l.toArray C Z Q (.opt i r m) a w := by
  refine ⟨?_, hm⟩
  have ho' : l.toArray[i]? = some o := by rw [List.getElem?_toArray]; exact ho
  unfold wpOp
  simp only [ho']
  unfold wpList at h
  have hmono : ∀ {a : Act} {w : World}, o.wp P a w (wpList P l.toArray (TreeQ P l.toArray C Z Q i r) []) (TreeQ P l.toArray C Z Q i r) → o.wp P a w (fun a' w' => (i ∈ Z ∨ C w') ∧ wpTree P l.toArray C Z Q r a' w') Q := by
    intro a w h
    unfold Oper.wp at h ⊢
    generalize (execOp a.eval o).run P w = rr at *
    cases rr with
    | ok n w' =>
      cases n <;> simp only [Oper.upon] at h ⊢
      case value u => exact h
      case skip => exact h
      case defer d => exact h
      case enter f args =>
        refine Calls.mono h fun e w'' he => ?_
        cases e <;> exact he
      case row row args => exact Rows.mono h fun u w'' he => he
    | halt x w' => cases x <;> simp only [Oper.upon] at h ⊢; exact h
  split
  · rename_i hw
    rw [if_pos hw] at h
    rcases h with h | ⟨h1, h2⟩
    · exact .inl (hmono h)
    · exact .inr ⟨h1, h2⟩
  · rename_i hw
    rw [if_neg hw] at h
    exact h
/-- The only one that may come. -/
theorem wpTree_one {l : List Oper} {a : Act} {w : World} {i : Nat} {r : PlanT} (o : Oper) (ho : l[i]? = some o) (h : wpList P l.toArray (TreeQ P l.toArray C Z Q i r) [o] a w) : wpTree P l.toArray C Z Q (.opt i r .no) a w :=
  wpTree_opt o ho h trivial
theorem wpTree_done {a : Act} {w : World} (h : Q .normal a w) : wpTree P ops C Z (tidy Q) .done a w := h
theorem TreeQ.in_ {a : Act} {w : World} {i : Nat} {r : PlanT} (hC : C w) (h : wpTree P ops C Z Q r a w) : TreeQ P ops C Z Q i r .normal a w := ⟨.inr hC, h⟩
theorem TreeQ.out {a : Act} {w : World} {i : Nat} {r : PlanT} (hz : Z.contains i = true) (h : wpTree P ops C Z Q r a w) : TreeQ P ops C Z Q i r .normal a w := ⟨.inl (by simpa using hz), h⟩
end
end Go

/- What Write does to a disk, sector by sector. Conditions: the bytes can be read, are as many as the sectors, and lie apart from the disk's; the sectors are there. -/
namespace Go.Proofs.YtgkljncigbiffaaDoor
open Go.RowKit
section
variable {gd gl gm N c : Nat} {L : List UInt8} {es : Array MapEntry} {out : Bool} {fz : Option Nat} {ops : Int}
theorem DiskB.near {w w' : World} {X : List Nat} (h : DiskB w gd gl gm N L es c out fz ops) (k : Near X w w') (hX : gd ∉ X ∧ gl ∉ X ∧ gm ∉ X) : DiskB w' gd gl gm N L es c out fz ops :=
  ⟨h.1.near k hX.1, h.2.1.near k hX.2.1, h.2.2.near k hX.2.2⟩
theorem sec_mid (w : World) (h : Blk w gl 145 (L.map u8v).toArray) (i : Nat) (_ : 256 * (i + 1) ≤ L.length) : w.rangeAt gl (256 * i) ((sec L i).map u8v) := Blk.range h (256 * i) _ fun j v hv => by
  rw [List.getElem?_toArray, List.getElem?_map]
  unfold sec at hv
  rw [List.getElem?_map, List.getElem?_take] at hv
  split at hv
  · rw [List.getElem?_drop] at hv; exact hv
  · simp at hv
theorem sec_mid' (w : World) (h : Blk w gl 145 (L.map u8v).toArray) (i : Nat) (hi : 256 * (i + 1) ≤ L.length) : w.rangeAt gl (i * 256) ((sec L i).map u8v) := by rw [Nat.mul_comm]; exact sec_mid w h i hi
theorem sec_length (i : Nat) (hi : 256 * (i + 1) ≤ L.length) : (sec L i).length = 256 := by unfold sec; rw [List.length_take, List.length_drop]; omega
theorem sizeSec : (Tryd.prog.info? 145).map (·.size) = some 256 := by kernel_rfl
theorem allocSec (w : World) : (zeroValue 145).run Tryd.prog w = .ok (.agg zeroSec) w := by
  have h : (Tryd.prog.info? 145).map (fun i => (i.zero, i.size)) = some (some (.agg zeroSec), 256) := by kernel_rfl
  exact (zero_of_info h).1 w
theorem zeroSec_list : zeroSec = ((List.replicate 256 (0 : UInt8)).map u8v).toArray := by
  rw [List.map_replicate]
  apply Array.ext_getElem?; intro i
  unfold zeroSec
  rw [arr_get, List.getElem?_toArray, List.getElem?_replicate]
  rfl
theorem sec_one (l : List UInt8) : (l.map u8v).toArray.all (·.oneCell') = true := u8_all l
/-- What the last round leaves. -/
def WrRel (w : World) (old : Nat → Option (List UInt8)) (gd gl gm N at_ n : Nat) (L b : List UInt8) (out : Bool) (fz : Option Nat) (ops : Int) (v : Value) (wr : World) : Prop :=
  ∃ (i : Nat) (es : Array MapEntry) (c : Nat), i ≤ n ∧ v = .int .i64 (i : Int) ∧ DiskB wr gd gl gm N (Go.wr L (256 * at_) (b.take (256 * i))) es c out fz ops ∧ OldIs es c (oldW old L at_ i) ∧ Near [gl, gm] w wr
set_option maxRecDepth 100000 in
set_option maxHeartbeats 4000000 in
theorem write1_any (gn gp ga gb n at_ cap : Nat) (A : Option Addr) (b : List UInt8) (w : World) (hn : Blk w gn 3 #[.int .i64 (n : Int)]) (hp : Blk w gp 25 #[.pointer (some ⟨gd, 0, none⟩)]) (ha : Blk w ga 3 #[.int .i64 (at_ : Int)]) (hb : Blk w gb 22 #[.slice A b.length cap])
    (hby : Bytes w A b) (hA : ∀ ad, A = some ad → ad.block ∉ [gl, gm]) (hbl : b.length = 256 * n) (hcap : b.length ≤ cap) (hat : at_ + n ≤ N) (hN : N ≤ 65536) (hL : L.length = N * 256)
    (hd : DiskB w gd gl gm N L es c out fz ops) {old : Nat → Option (List UInt8)} (hes : OldIs es c old) (hX : gn ∉ [gl, gm] ∧ gp ∉ [gl, gm] ∧ ga ∉ [gl, gm] ∧ gb ∉ [gl, gm] ∧ gd ∉ [gl, gm] ∧ gl ≠ gm) :
    Calls Tryd.prog 112 #[.pointer (some ⟨gn, 0, none⟩), .pointer (some ⟨gp, 0, none⟩), .pointer (some ⟨ga, 0, none⟩), .pointer (some ⟨gb, 0, none⟩)] w fun e w' => e = .returned (.tuple #[]) ∧
      ∃ es' c', DiskB w' gd gl gm N (Go.wr L (256 * at_) b) es' c' out fz ops ∧ OldIs es' c' (oldW old L at_ n) ∧ Near [gl, gm] w w' := by
  have HH := Lib.hid (And.intro hn (And.intro hp (And.intro ha (And.intro hb (And.intro hby hA)))))
  have HN := Lib.hid (And.intro hbl (And.intro hcap (And.intro hat (And.intro hN hL))))
  have HX := Lib.hid hX
  have hS : WrRel w old gd gl gm N at_ n L b out fz ops (.int .i64 0) w := ⟨0, es, c, Nat.zero_le _, rfl, by rw [Nat.mul_zero, List.take_zero, wr_nil]; exact hd, by rw [oldW_zero]; exact hes, Near.refl _ _⟩
  have dn := hn.at_ 0 (v := .int .i64 (n : Int)) rfl
  clear hn hp ha hb hby hA hbl hcap hat hN hL hd hes hX
  go_enter Tryd.func112, Tryd.ntmps112
  go_wp2_with fail
  go_loopw [8] (fun v wr => WrRel w old gd gl gm N at_ n L b out fz ops v wr) (fun v _ => n - (intOf v).toNat)
  case atStart => exact hS
  case round =>
    clear hS dn
    obtain ⟨i, es1, c1, hi, rfl, hd, ho, hnr⟩ := hrel
    have hk := ho.keys
    have hsv := ho.vals
    by_cases hlt : i < n
    case neg =>
      obtain rfl : i = n := by omega
      have HD := Lib.hid (show ∃ es' c', DiskB wr gd gl gm N (Go.wr L (256 * at_) b) es' c' out fz ops ∧ OldIs es' c' (oldW old L at_ i) ∧ Near [gl, gm] w wr from
        ⟨es1, c1, by rw [← HN.out.1, List.take_length] at hd; exact hd, ho, hnr⟩)
      clear hd ho hk hsv hnr
      go_wp2
      refine bodyPost_end (v := .tuple #[]) (by simp [results]) rfl ⟨rfl, HD.out⟩
    have hp1 := HH.out.2.1.near hnr HX.out.2.1
    have ha1 := HH.out.2.2.1.near hnr HX.out.2.2.1
    have hb1 := HH.out.2.2.2.1.near hnr HX.out.2.2.2.1
    have hby1 := Bytes.near HH.out.2.2.2.2.1 hnr HH.out.2.2.2.2.2
    have hai : at_ + i < 65536 := by have := HN.out; omega
    have hX0 : ∀ g, g ∉ ([] : List Nat) := fun g h => by cases h
    have aS := allocSec
    have HXM := Lib.hid (show gp ∉ [gm] ∧ ga ∉ [gm] ∧ gd ∉ [gm] ∧ gl ∉ [gm] ∧ gb ∉ [gm] by have h := HX.out; simp at h ⊢; omega)
    have HXL := Lib.hid (show gp ∉ [gl] ∧ ga ∉ [gl] ∧ gb ∉ [gl] ∧ gd ∉ [gl] ∧ gm ∉ [gl] by have h := HX.out; simp at h ⊢; omega)
    have hiN : at_ + i < N := by have := HN.out; omega
    have HR := Lib.hid (And.intro hk (And.intro hsv hnr))
    obtain ⟨lv, hlv, hgv⟩ := SecVals.get hsv ((at_ : Int) + i)
    rw [← zeroSec_list] at hgv
    have HLV := Lib.hid (And.intro hlv hgv)
    obtain ⟨q, hq⟩ : ∃ q, q = (mget es1 ((at_ : Int) + i)).isSome := ⟨_, rfl⟩
    have HQ := Lib.hid hq
    have HO := Lib.hid (And.intro ho (show q = (old (at_ + i)).isSome by rw [hq, show ((at_ : Int) + i) = ((at_ + i : Nat) : Int) by omega, ho.get, oldW_at]; cases old (at_ + i) <;> rfl))
    clear ho hk hsv hnr hlv hgv hq
    go_wp2_with fail
    refine wp_region_tree (Near [] wr) [] (PlanT.takes [5] (PlanT.takes [0, 4] (PlanT.takes [1, 2, 6] (PlanT.takes [3] (.opt 7 (PlanT.takes [8, 9, 10] (.opt 11 (.opt 12 (PlanT.takes [13] .done) .no) .no)) (.opt 11 (.opt 7 (PlanT.takes [8, 9, 10] (.opt 12 (PlanT.takes [13] .done) .no)) .no) .no)))))) (by kernel_rfl) (by kernel_rfl) ((Near.refl _ _).drew) ?_
    refine wpTree_pure _ _ _ (by rfl) (by rfl) ?_
    dsimp only [List.filterMap, List.getElem?_cons_zero, List.getElem?_cons_succ]
    repeat (go_big_quiet_step (fail))
    refine wpQuiet_nil ?_
    refine wpTree_takeL _ _ _ (by rfl) (by rfl) ((Near.refl _ _).drew) ?_
    dsimp only [List.filterMap, List.getElem?_cons_zero, List.getElem?_cons_succ]
    (refine wpQuiet_load_cell (fun w' hw' => (Blk.near hp1 hw' (hX0 _)).at_ 0 (v := .pointer (some ⟨gd, 0, none⟩)) rfl) (by rfl) _ _ (by rfl) (by rfl) _ Tryd.underlying25 (by rfl) ?_; simp only [Act.put, List.setIfInBounds_toArray, List.set_cons_zero, List.set_cons_succ])
    (refine wpQuiet_load_cell (fun w' hw' => (Blk.near ha1 hw' (hX0 _)).at_ 0 (v := .int .i64 (at_ : Int)) rfl) (by rfl) _ _ (by rfl) (by rfl) _ Tryd.underlying3 (by rfl) ?_; simp only [Act.put, List.setIfInBounds_toArray, List.set_cons_zero, List.set_cons_succ])
    refine wpQuiet_nil ?_
    refine wpTree_pure _ _ _ (by rfl) (by rfl) ?_
    dsimp only [List.filterMap, List.getElem?_cons_zero, List.getElem?_cons_succ]
    repeat (go_big_quiet_step (fail))
    refine wpQuiet_nil ?_
    refine wpTree_takeL _ _ _ (by rfl) (by rfl) ((Near.refl _ _).drew) ?_
    dsimp only [List.filterMap, List.getElem?_cons_zero, List.getElem?_cons_succ]
    (refine wpQuiet_load_cell (fun w' hw' => (Blk.near hd.1 hw' (hX0 _)).at_ 1 (v := .map (some gm)) rfl) (by rfl) _ _ (by rfl) (by rfl) _ Tryd.underlying102 (by rfl) ?_; simp only [Act.put, List.setIfInBounds_toArray, List.set_cons_zero, List.set_cons_succ])
    refine wpQuiet_nil ?_
    refine wpTree_opt _ rfl ?_ (wpTree_one _ rfl ?_)
    · refine wpList_lookup_int (by rfl) _ _ _ _ _ (by rfl) Tryd.underlying102 Tryd.underlying3 gm es1 c1 hd.2.2.drew HR.out.1 ((at_ : Int) + i) (.agg zeroSec) (allocSec _) (by rfl) (by rfl) ?_
      rw [HLV.out.2, ← HQ.out]
      go_wp2_with fail
      refine TreeQ.in_ (Near.refl _ _).drew ?_
      refine wpTree_pure _ _ _ (by rfl) (by rfl) ?_
      dsimp only [List.filterMap, List.getElem?_cons_zero, List.getElem?_cons_succ]
      repeat (go_big_quiet_step (fail))
      refine wpQuiet_nil ?_
      refine wpTree_one _ rfl ?_
      go_wp2_with fail
      have hz := ((Blk.new wr 145 zeroSec).sub zeroSec_list).drew
      have hC2 : Near [] wr (World.drew (World.alloc wr (.cells zeroSec 145))) := (Near.below ((Below.refl _ _).alloc (Nat.le_refl _) _)).drew
      generalize World.drew (World.alloc wr (.cells zeroSec 145)) = w4 at hz hC2 ⊢
      refine TreeQ.in_ hC2 ?_
      refine wpTree_one _ rfl ?_
      go_wp2_with (first
        | ((with_reducible show wpList _ _ _ ((⟨none, _, _, _, _, _⟩ : Oper) :: _) _ _); refine wpList_store_blk (o := ⟨none, _, _, _, _, _⟩) (hz) (by rfl) _ _ _ (by rfl) (by rfl) ((lv.map u8v).toArray) (by rfl) (sizeSec) (by simp) (by simp [HLV.out.1]) (sec_one _) ?_; intro w5 h5 hu5)
        | fail)
      have hC5 : Near [] wr w5 := hC2.new hu5 (Nat.le_refl _)
      refine TreeQ.in_ hC5 ?_
      refine wpTree_pure _ _ _ (by rfl) (by rfl) ?_
      dsimp only [List.filterMap, List.getElem?_cons_zero, List.getElem?_cons_succ]
      repeat (go_big_quiet_step (fail))
      refine wpQuiet_nil ?_
      refine wpTree_done ?_
      clear hz h5 hu5 hC2 aS
      have hnr5 : Near [gl, gm] w w5 := HR.out.2.2.trans (hC5.wider (fun x hx => by cases hx))
      replace hd := hd.near hC5 ⟨hX0 _, hX0 _, hX0 _⟩
      replace hp1 := hp1.near hC5 (hX0 _)
      replace ha1 := ha1.near hC5 (hX0 _)
      replace hb1 := hb1.near hC5 (hX0 _)
      replace hby1 := Bytes.near hby1 hC5 (fun ad _ => hX0 _)
      have HK := Lib.hid (And.intro HR.out.1 (And.intro HR.out.2.1 hnr5))
      clear HR hC5 hnr5 HQ
      cases q
      · have hC5m := (Near.refl [gm] w5).drew
        have hLl : (Go.wr L (256 * at_) (b.take (256 * i))).length = N * 256 := by rw [wr_length (by rw [List.length_take]; have := HN.out; omega)]; exact HN.out.2.2.2.2
        obtain ⟨L1, hL1⟩ : ∃ L1, L1 = Go.wr L (256 * at_) (b.take (256 * i)) := ⟨_, rfl⟩
        rw [← hL1] at hd hLl
        have HL1 := Lib.hid (And.intro hL1 hLl)
        clear hL1 hLl
        go_wp2_with fail
        refine wp_region_tree (Near [gm] w5) [] (PlanT.takes [5, 12] (PlanT.takes [0, 4, 7, 11] (PlanT.takes [1, 2, 6, 8, 9, 13] (PlanT.takes [3, 10] (PlanT.takes [14] (PlanT.takes [15] (.opt 16 .done .no))))))) (by kernel_rfl) (by kernel_rfl) (hC5m) ?_
        refine wpTree_pure _ _ _ (by rfl) (by rfl) ?_
        dsimp only [List.filterMap, List.getElem?_cons_zero, List.getElem?_cons_succ]
        repeat (go_big_quiet_step (fail))
        refine wpQuiet_nil ?_
        refine wpTree_takeL _ _ _ (by rfl) (by rfl) (hC5m) ?_
        dsimp only [List.filterMap, List.getElem?_cons_zero, List.getElem?_cons_succ]
        (refine wpQuiet_load_cell (fun w' hw' => (Blk.near hp1 hw' (HXM.out.1)).at_ 0 (v := .pointer (some ⟨gd, 0, none⟩)) rfl) (by rfl) _ _ (by rfl) (by rfl) _ Tryd.underlying25 (by rfl) ?_; simp only [Act.put, List.setIfInBounds_toArray, List.set_cons_zero, List.set_cons_succ])
        (refine wpQuiet_load_cell (fun w' hw' => (Blk.near ha1 hw' (HXM.out.2.1)).at_ 0 (v := .int .i64 (at_ : Int)) rfl) (by rfl) _ _ (by rfl) (by rfl) _ Tryd.underlying3 (by rfl) ?_; simp only [Act.put, List.setIfInBounds_toArray, List.set_cons_zero, List.set_cons_succ])
        (refine wpQuiet_load_cell (fun w' hw' => (Blk.near hp1 hw' (HXM.out.1)).at_ 0 (v := .pointer (some ⟨gd, 0, none⟩)) rfl) (by rfl) _ _ (by rfl) (by rfl) _ Tryd.underlying25 (by rfl) ?_; simp only [Act.put, List.setIfInBounds_toArray, List.set_cons_zero, List.set_cons_succ])
        (refine wpQuiet_load_cell (fun w' hw' => (Blk.near ha1 hw' (HXM.out.2.1)).at_ 0 (v := .int .i64 (at_ : Int)) rfl) (by rfl) _ _ (by rfl) (by rfl) _ Tryd.underlying3 (by rfl) ?_; simp only [Act.put, List.setIfInBounds_toArray, List.set_cons_zero, List.set_cons_succ])
        refine wpQuiet_nil ?_
        refine wpTree_pure _ _ _ (by rfl) (by rfl) ?_
        dsimp only [List.filterMap, List.getElem?_cons_zero, List.getElem?_cons_succ]
        repeat (go_big_quiet_step (fail))
        refine wpQuiet_nil ?_
        refine wpTree_takeL _ _ _ (by rfl) (by rfl) (hC5m) ?_
        dsimp only [List.filterMap, List.getElem?_cons_zero, List.getElem?_cons_succ]
        (refine wpQuiet_load_cell (fun w' hw' => (Blk.near hd.1 hw' (HXM.out.2.2.1)).at_ 1 (v := .map (some gm)) rfl) (by rfl) _ _ (by rfl) (by rfl) _ Tryd.underlying102 (by rfl) ?_; simp only [Act.put, List.setIfInBounds_toArray, List.set_cons_zero, List.set_cons_succ])
        (refine wpQuiet_load_cell (fun w' hw' => (Blk.near hd.1 hw' (HXM.out.2.2.1)).at_ 0 (v := .slice (some ⟨gl, 0, none⟩) N N) rfl) (by rfl) _ _ (by rfl) (by rfl) _ Tryd.underlying101 (by rfl) ?_; simp only [Act.put, List.setIfInBounds_toArray, List.set_cons_zero, List.set_cons_succ])
        refine wpQuiet_nil ?_
        refine wpTree_pure _ _ _ (by rfl) (by rfl) ?_
        dsimp only [List.filterMap, List.getElem?_cons_zero, List.getElem?_cons_succ]
        repeat (go_big_quiet_step (fail))
        refine wpQuiet_nil ?_
        refine wpTree_takeL _ _ _ (by rfl) (by rfl) (hC5m) ?_
        dsimp only [List.filterMap, List.getElem?_cons_zero, List.getElem?_cons_succ]
        (refine wpQuiet_load_mid (fun w' hw' => sec_mid' w' (hd.2.1.near hw' HXM.out.2.2.2.1) (at_ + i) (by rw [HL1.out.2]; omega)) (by rfl) _ _ (by rfl) (by rfl) _ Tryd.underlying145 (by rfl) (sizeSec) (by rw [List.length_map, sec_length _ (by rw [HL1.out.2]; omega)]) ?_; simp only [Act.put, List.setIfInBounds_toArray, List.set_cons_zero, List.set_cons_succ])
        refine wpQuiet_nil ?_
        refine wpTree_one _ rfl ?_
        refine wpList_mapUpdate_int (by rfl) _ _ _ _ _ _ (by rfl) Tryd.underlying102 Tryd.underlying3 gm es1 c1 hd.2.2.drew HK.out.1 ((at_ : Int) + i) (.agg ((sec L1 (at_ + i)).map u8v).toArray) (by rfl) (by rfl) (by rfl) ?_
        intro w6 hm6 hu6
        have hC6 : Near [gm] w5 w6 := hC5m.trans (Near.upd hu6 (List.mem_singleton.2 rfl))
        go_wp2_with fail
        refine TreeQ.in_ hC6 ?_
        refine wpTree_done ?_
        have hsl : (sec L1 (at_ + i)).length = 256 := sec_length _ (by rw [HL1.out.2]; omega)
        have hik : IntKeys (mput es1 c1 ((at_ : Int) + i) (.agg ((sec L1 (at_ + i)).map u8v).toArray)).1.toList := HK.out.1.put
        have hsv : SecVals (mput es1 c1 ((at_ : Int) + i) (.agg ((sec L1 (at_ + i)).map u8v).toArray)).1.toList := HK.out.2.1.put hsl
        have ho2 : OldIs (mput es1 c1 ((at_ : Int) + i) (.agg ((sec L1 (at_ + i)).map u8v).toArray)).1 (mput es1 c1 ((at_ : Int) + i) (.agg ((sec L1 (at_ + i)).map u8v).toArray)).2 (oldW old L at_ (i + 1)) := by
          have hn0 : old (at_ + i) = none := by have h := HO.out.2; cases hx : old (at_ + i) with
            | none => rfl
            | some l => rw [hx] at h; cases h
          have h1 := HO.out.1.put (k := at_ + i) (l := sec L1 (at_ + i)) (by rw [oldW_at]; exact hn0) hsl
          have e1 : sec L1 (at_ + i) = sec L (at_ + i) := by rw [HL1.out.1]; exact sec_wr_behind (by have := HN.out; omega) (by have := HN.out; omega)
          rw [show ((at_ + i : Nat) : Int) = (at_ : Int) + i by omega] at h1
          rw [← oldW_new hn0, ← e1]; exact h1
        replace hd : DiskB w6 gd gl gm N L1 _ _ out fz ops := ⟨hd.1.near hC6 HXM.out.2.2.1, hd.2.1.near hC6 HXM.out.2.2.2.1, hm6⟩
        generalize (mput es1 c1 ((at_ : Int) + i) (.agg ((sec L1 (at_ + i)).map u8v).toArray)).1 = es2 at hd hik hsv ho2
        generalize (mput es1 c1 ((at_ : Int) + i) (.agg ((sec L1 (at_ + i)).map u8v).toArray)).2 = c2 at hd ho2
        rw [HL1.out.1] at hd
        have hk2 := And.intro hik (And.intro ho2 (HK.out.2.2.trans (hC6.wider (fun x hx => by simp at hx; simp [hx]))))
        replace hp1 := hp1.near hC6 HXM.out.1
        replace ha1 := ha1.near hC6 HXM.out.2.1
        replace hb1 := hb1.near hC6 HXM.out.2.2.2.2
        replace hby1 := Bytes.near hby1 hC6 (fun ad e => by have h := HH.out.2.2.2.2.2 ad e; simp at h ⊢; exact h.2)
        have HK2 := Lib.hid hk2
        clear hC6 hm6 hu6 hsl hik hsv ho2 hk2 hC5m HK HL1 HO
        have hC7 := (Near.refl [gl] w6).drew
        have hsb : (sec b i).length = 256 := sec_length _ (by have := HN.out; omega)
        obtain ⟨bb, boff, hAe, hbl0, -⟩ := hby1.at_ (by have := HN.out; omega)
        have hcn : ¬ cap = i * 256 := by have := HN.out; omega
        have hc2 : (i + 1) * 256 ≤ cap := by have := HN.out; omega
        have hc3 : i * 256 ≤ cap := by omega
        have hbm : Bytes w6 (some ⟨bb, boff + i * 256, none⟩) (sec b i) := by
          have h := hby1.drop (k := i * 256) (cap := cap) (.inl (by omega))
          rw [if_neg hcn, hAe] at h
          have h2 := h.take 256
          rw [Nat.mul_comm i 256] at h2
          unfold sec
          rw [Nat.mul_comm i 256]
          simpa [Addr.add_lit] using h2
        have hbbl : bb ∉ [gl] := by have h := HH.out.2.2.2.2.2 _ hAe; simp at h ⊢; exact h.1
        subst hAe
        have HSB := Lib.hid (And.intro hsb (And.intro hbm hbbl))
        clear hsb hbm hbbl hbl0
        go_wp2_with fail
        refine wp_region_tree (Near [gl] w6) [] (PlanT.takes [5, 8, 9, 10, 11, 12] (PlanT.takes [0, 4, 7] (PlanT.takes [1, 2, 6, 13, 14] (PlanT.takes [3, 15] (PlanT.takes [16] (.opt 17 .done .no)))))) (by kernel_rfl) (by kernel_rfl) (hC7) ?_
        refine wpTree_pure _ _ _ (by rfl) (by rfl) ?_
        dsimp only [List.filterMap, List.getElem?_cons_zero, List.getElem?_cons_succ]
        repeat (go_big_quiet_step (fail))
        refine wpQuiet_nil ?_
        refine wpTree_takeL _ _ _ (by rfl) (by rfl) (hC7) ?_
        dsimp only [List.filterMap, List.getElem?_cons_zero, List.getElem?_cons_succ]
        (refine wpQuiet_load_cell (fun w' hw' => (Blk.near hp1 hw' (HXL.out.1)).at_ 0 (v := .pointer (some ⟨gd, 0, none⟩)) rfl) (by rfl) _ _ (by rfl) (by rfl) _ Tryd.underlying25 (by rfl) ?_; simp only [Act.put, List.setIfInBounds_toArray, List.set_cons_zero, List.set_cons_succ])
        (refine wpQuiet_load_cell (fun w' hw' => (Blk.near ha1 hw' (HXL.out.2.1)).at_ 0 (v := .int .i64 (at_ : Int)) rfl) (by rfl) _ _ (by rfl) (by rfl) _ Tryd.underlying3 (by rfl) ?_; simp only [Act.put, List.setIfInBounds_toArray, List.set_cons_zero, List.set_cons_succ])
        (refine wpQuiet_load_cell (fun w' hw' => (Blk.near hb1 hw' (HXL.out.2.2.1)).at_ 0 (v := .slice (some ⟨bb, boff, none⟩) b.length cap) rfl) (by rfl) _ _ (by rfl) (by rfl) _ Tryd.underlying22 (by rfl) ?_; simp only [Act.put, List.setIfInBounds_toArray, List.set_cons_zero, List.set_cons_succ])
        refine wpQuiet_nil ?_
        refine wpTree_pure _ _ _ (by rfl) (by rfl) ?_
        dsimp only [List.filterMap, List.getElem?_cons_zero, List.getElem?_cons_succ]
        repeat (go_big_quiet_step (fail))
        refine wpQuiet_array (by rfl) _ _ (by rfl) 256 _ Tryd.underlying145 (some ⟨bb, boff + i * 256, none⟩) ((i + 1) * 256 - i * 256) (cap - i * 256) (by rfl) (by omega) ?_
        simp only [Act.put, List.setIfInBounds_toArray, List.set_cons_zero, List.set_cons_succ]
        refine wpQuiet_nil ?_
        refine wpTree_takeL _ _ _ (by rfl) (by rfl) (hC7) ?_
        dsimp only [List.filterMap, List.getElem?_cons_zero, List.getElem?_cons_succ]
        (refine wpQuiet_load_cell (fun w' hw' => (Blk.near hd.1 hw' (HXL.out.2.2.2.1)).at_ 0 (v := .slice (some ⟨gl, 0, none⟩) N N) rfl) (by rfl) _ _ (by rfl) (by rfl) _ Tryd.underlying101 (by rfl) ?_; simp only [Act.put, List.setIfInBounds_toArray, List.set_cons_zero, List.set_cons_succ])
        (refine wpQuiet_load_mid (fun w' hw' => Bytes.range (Bytes.near HSB.out.2.1 hw' (fun ad e => by cases e; exact HSB.out.2.2))) (by rfl) _ _ (by rfl) (by rfl) _ Tryd.underlying145 (by rfl) (sizeSec) (by rw [List.length_map, HSB.out.1]) ?_; simp only [Act.put, List.setIfInBounds_toArray, List.set_cons_zero, List.set_cons_succ])
        refine wpQuiet_nil ?_
        refine wpTree_pure _ _ _ (by rfl) (by rfl) ?_
        dsimp only [List.filterMap, List.getElem?_cons_zero, List.getElem?_cons_succ]
        repeat (go_big_quiet_step (fail))
        refine wpQuiet_nil ?_
        have hlw : (Go.wr L (256 * at_) (b.take (256 * i))).length = N * 256 := by rw [wr_length (by rw [List.length_take]; have := HN.out; omega)]; exact HN.out.2.2.2.2
        have hlt2 : (b.take (256 * i)).length = 256 * i := by rw [List.length_take]; have := HN.out; omega
        refine wpTree_one _ rfl ?_
        refine wpList_store_in hd.2.1.drew (by rfl) _ _ _ (by rfl) ((at_ + i) * 256) (by rfl) ((sec b i).map u8v).toArray (by rfl) sizeSec (by rw [List.size_toArray, List.length_map, HSB.out.1]) (by rw [List.size_toArray, List.length_map, hlw]; omega) (sec_one _) ?_
        intro w8 h8 hu8
        have hC8 : Near [gl] w6 w8 := hC7.trans (Near.upd hu8 (List.mem_singleton.2 rfl))
        have e8 : setAll ((Go.wr L (256 * at_) (b.take (256 * i))).map u8v).toArray ((at_ + i) * 256) ((sec b i).map u8v).toArray.toList = ((Go.wr L (256 * at_) (b.take (256 * (i + 1)))).map u8v).toArray := by
          rw [List.toList_toArray, setAll_wr _ _ _ (by rw [hlw, HSB.out.1]; omega)]
          have e1 : (at_ + i) * 256 = 256 * at_ + (b.take (256 * i)).length := by rw [hlt2]; omega
          rw [e1, wr_wr (by rw [hlt2, HSB.out.1]; have := HN.out; omega)]
          have e2 : b.take (256 * i) ++ sec b i = b.take (256 * (i + 1)) := by unfold sec; rw [Nat.mul_add, Nat.mul_one, List.take_add]
          rw [e2]
        rw [e8] at h8
        replace hd : DiskB w8 gd gl gm N _ _ _ out fz ops := ⟨hd.1.near hC8 HXL.out.2.2.2.1, h8, hd.2.2.near hC8 HXL.out.2.2.2.2⟩
        have HF := Lib.hid (show WrRel w old gd gl gm N at_ n L b out fz ops (.int .i64 ((i + 1 : Nat) : Int)) w8 from
          ⟨i + 1, es2, c2, by omega, rfl, hd, HK2.out.2.1, HK2.out.2.2.trans (hC8.wider (fun x hx => by simp at hx; simp [hx]))⟩)
        go_wp2_with fail
        refine TreeQ.in_ hC8 ?_
        refine wpTree_done ?_
        clear hd e8 h8 hu8 hC8 hp1 ha1 hb1 hby1 HSB HK2
        go_wp2
        go_roundw
        case rel => exact HF.out
        case measure => simp [intOf]; omega
      · have ho2 : OldIs es1 c1 (oldW old L at_ (i + 1)) := by
          have h := HO.out.2
          cases hx : old (at_ + i) with
          | none => rw [hx] at h; cases h
          | some l => rw [oldW_has hx]; exact HO.out.1
        have HK2 := Lib.hid (And.intro HK.out.1 (And.intro ho2 HK.out.2.2))
        clear HK HO ho2
        have hC7 := (Near.refl [gl] w5).drew
        have hsb : (sec b i).length = 256 := sec_length _ (by have := HN.out; omega)
        obtain ⟨bb, boff, hAe, hbl0, -⟩ := hby1.at_ (by have := HN.out; omega)
        have hcn : ¬ cap = i * 256 := by have := HN.out; omega
        have hc2 : (i + 1) * 256 ≤ cap := by have := HN.out; omega
        have hc3 : i * 256 ≤ cap := by omega
        have hbm : Bytes w5 (some ⟨bb, boff + i * 256, none⟩) (sec b i) := by
          have h := hby1.drop (k := i * 256) (cap := cap) (.inl (by omega))
          rw [if_neg hcn, hAe] at h
          have h2 := h.take 256
          rw [Nat.mul_comm i 256] at h2
          unfold sec
          rw [Nat.mul_comm i 256]
          simpa [Addr.add_lit] using h2
        have hbbl : bb ∉ [gl] := by have h := HH.out.2.2.2.2.2 _ hAe; simp at h ⊢; exact h.1
        subst hAe
        have HSB := Lib.hid (And.intro hsb (And.intro hbm hbbl))
        clear hsb hbm hbbl hbl0
        go_wp2_with fail
        refine wp_region_tree (Near [gl] w5) [] (PlanT.takes [5, 8, 9, 10, 11, 12] (PlanT.takes [0, 4, 7] (PlanT.takes [1, 2, 6, 13, 14] (PlanT.takes [3, 15] (PlanT.takes [16] (.opt 17 .done .no)))))) (by kernel_rfl) (by kernel_rfl) (hC7) ?_
        refine wpTree_pure _ _ _ (by rfl) (by rfl) ?_
        dsimp only [List.filterMap, List.getElem?_cons_zero, List.getElem?_cons_succ]
        repeat (go_big_quiet_step (fail))
        refine wpQuiet_nil ?_
        refine wpTree_takeL _ _ _ (by rfl) (by rfl) (hC7) ?_
        dsimp only [List.filterMap, List.getElem?_cons_zero, List.getElem?_cons_succ]
        (refine wpQuiet_load_cell (fun w' hw' => (Blk.near hp1 hw' (HXL.out.1)).at_ 0 (v := .pointer (some ⟨gd, 0, none⟩)) rfl) (by rfl) _ _ (by rfl) (by rfl) _ Tryd.underlying25 (by rfl) ?_; simp only [Act.put, List.setIfInBounds_toArray, List.set_cons_zero, List.set_cons_succ])
        (refine wpQuiet_load_cell (fun w' hw' => (Blk.near ha1 hw' (HXL.out.2.1)).at_ 0 (v := .int .i64 (at_ : Int)) rfl) (by rfl) _ _ (by rfl) (by rfl) _ Tryd.underlying3 (by rfl) ?_; simp only [Act.put, List.setIfInBounds_toArray, List.set_cons_zero, List.set_cons_succ])
        (refine wpQuiet_load_cell (fun w' hw' => (Blk.near hb1 hw' (HXL.out.2.2.1)).at_ 0 (v := .slice (some ⟨bb, boff, none⟩) b.length cap) rfl) (by rfl) _ _ (by rfl) (by rfl) _ Tryd.underlying22 (by rfl) ?_; simp only [Act.put, List.setIfInBounds_toArray, List.set_cons_zero, List.set_cons_succ])
        refine wpQuiet_nil ?_
        refine wpTree_pure _ _ _ (by rfl) (by rfl) ?_
        dsimp only [List.filterMap, List.getElem?_cons_zero, List.getElem?_cons_succ]
        repeat (go_big_quiet_step (fail))
        refine wpQuiet_array (by rfl) _ _ (by rfl) 256 _ Tryd.underlying145 (some ⟨bb, boff + i * 256, none⟩) ((i + 1) * 256 - i * 256) (cap - i * 256) (by rfl) (by omega) ?_
        simp only [Act.put, List.setIfInBounds_toArray, List.set_cons_zero, List.set_cons_succ]
        refine wpQuiet_nil ?_
        refine wpTree_takeL _ _ _ (by rfl) (by rfl) (hC7) ?_
        dsimp only [List.filterMap, List.getElem?_cons_zero, List.getElem?_cons_succ]
        (refine wpQuiet_load_cell (fun w' hw' => (Blk.near hd.1 hw' (HXL.out.2.2.2.1)).at_ 0 (v := .slice (some ⟨gl, 0, none⟩) N N) rfl) (by rfl) _ _ (by rfl) (by rfl) _ Tryd.underlying101 (by rfl) ?_; simp only [Act.put, List.setIfInBounds_toArray, List.set_cons_zero, List.set_cons_succ])
        (refine wpQuiet_load_mid (fun w' hw' => Bytes.range (Bytes.near HSB.out.2.1 hw' (fun ad e => by cases e; exact HSB.out.2.2))) (by rfl) _ _ (by rfl) (by rfl) _ Tryd.underlying145 (by rfl) (sizeSec) (by rw [List.length_map, HSB.out.1]) ?_; simp only [Act.put, List.setIfInBounds_toArray, List.set_cons_zero, List.set_cons_succ])
        refine wpQuiet_nil ?_
        refine wpTree_pure _ _ _ (by rfl) (by rfl) ?_
        dsimp only [List.filterMap, List.getElem?_cons_zero, List.getElem?_cons_succ]
        repeat (go_big_quiet_step (fail))
        refine wpQuiet_nil ?_
        have hlw : (Go.wr L (256 * at_) (b.take (256 * i))).length = N * 256 := by rw [wr_length (by rw [List.length_take]; have := HN.out; omega)]; exact HN.out.2.2.2.2
        have hlt2 : (b.take (256 * i)).length = 256 * i := by rw [List.length_take]; have := HN.out; omega
        refine wpTree_one _ rfl ?_
        refine wpList_store_in hd.2.1.drew (by rfl) _ _ _ (by rfl) ((at_ + i) * 256) (by rfl) ((sec b i).map u8v).toArray (by rfl) sizeSec (by rw [List.size_toArray, List.length_map, HSB.out.1]) (by rw [List.size_toArray, List.length_map, hlw]; omega) (sec_one _) ?_
        intro w8 h8 hu8
        have hC8 : Near [gl] w5 w8 := hC7.trans (Near.upd hu8 (List.mem_singleton.2 rfl))
        have e8 : setAll ((Go.wr L (256 * at_) (b.take (256 * i))).map u8v).toArray ((at_ + i) * 256) ((sec b i).map u8v).toArray.toList = ((Go.wr L (256 * at_) (b.take (256 * (i + 1)))).map u8v).toArray := by
          rw [List.toList_toArray, setAll_wr _ _ _ (by rw [hlw, HSB.out.1]; omega)]
          have e1 : (at_ + i) * 256 = 256 * at_ + (b.take (256 * i)).length := by rw [hlt2]; omega
          rw [e1, wr_wr (by rw [hlt2, HSB.out.1]; have := HN.out; omega)]
          have e2 : b.take (256 * i) ++ sec b i = b.take (256 * (i + 1)) := by unfold sec; rw [Nat.mul_add, Nat.mul_one, List.take_add]
          rw [e2]
        rw [e8] at h8
        replace hd : DiskB w8 gd gl gm N _ _ _ out fz ops := ⟨hd.1.near hC8 HXL.out.2.2.2.1, h8, hd.2.2.near hC8 HXL.out.2.2.2.2⟩
        have HF := Lib.hid (show WrRel w old gd gl gm N at_ n L b out fz ops (.int .i64 ((i + 1 : Nat) : Int)) w8 from
          ⟨i + 1, es1, c1, by omega, rfl, hd, HK2.out.2.1, HK2.out.2.2.trans (hC8.wider (fun x hx => by simp at hx; simp [hx]))⟩)
        go_wp2_with fail
        refine TreeQ.in_ hC8 ?_
        refine wpTree_done ?_
        clear hd e8 h8 hu8 hC8 hp1 ha1 hb1 hby1 HSB HK2
        go_wp2
        go_roundw
        case rel => exact HF.out
        case measure => simp [intOf]; omega
    · go_wp2_with fail
      have hz := ((Blk.new wr 145 zeroSec).sub zeroSec_list).drew
      have hC2 : Near [] wr (World.drew (World.alloc wr (.cells zeroSec 145))) := (Near.below ((Below.refl _ _).alloc (Nat.le_refl _) _)).drew
      generalize World.drew (World.alloc wr (.cells zeroSec 145)) = w4 at hz hC2 ⊢
      refine TreeQ.in_ hC2 ?_
      refine wpTree_one _ rfl ?_
      refine wpList_lookup_int (by rfl) _ _ _ _ _ (by rfl) Tryd.underlying102 Tryd.underlying3 gm es1 c1 (hd.near hC2 ⟨hX0 _, hX0 _, hX0 _⟩).2.2 HR.out.1 ((at_ : Int) + i) (.agg zeroSec) (allocSec _) (by rfl) (by rfl) ?_
      rw [HLV.out.2, ← HQ.out]
      go_wp2_with fail
      refine TreeQ.in_ hC2 ?_
      refine wpTree_pure _ _ _ (by rfl) (by rfl) ?_
      dsimp only [List.filterMap, List.getElem?_cons_zero, List.getElem?_cons_succ]
      repeat (go_big_quiet_step (fail))
      refine wpQuiet_nil ?_
      refine wpTree_one _ rfl ?_
      go_wp2_with (first
        | ((with_reducible show wpList _ _ _ ((⟨none, _, _, _, _, _⟩ : Oper) :: _) _ _); refine wpList_store_blk (o := ⟨none, _, _, _, _, _⟩) (hz) (by rfl) _ _ _ (by rfl) (by rfl) ((lv.map u8v).toArray) (by rfl) (sizeSec) (by simp) (by simp [HLV.out.1]) (sec_one _) ?_; intro w5 h5 hu5)
        | fail)
      have hC5 : Near [] wr w5 := hC2.new hu5 (Nat.le_refl _)
      refine TreeQ.in_ hC5 ?_
      refine wpTree_pure _ _ _ (by rfl) (by rfl) ?_
      dsimp only [List.filterMap, List.getElem?_cons_zero, List.getElem?_cons_succ]
      repeat (go_big_quiet_step (fail))
      refine wpQuiet_nil ?_
      refine wpTree_done ?_
      clear hz h5 hu5 hC2 aS
      have hnr5 : Near [gl, gm] w w5 := HR.out.2.2.trans (hC5.wider (fun x hx => by cases hx))
      replace hd := hd.near hC5 ⟨hX0 _, hX0 _, hX0 _⟩
      replace hp1 := hp1.near hC5 (hX0 _)
      replace ha1 := ha1.near hC5 (hX0 _)
      replace hb1 := hb1.near hC5 (hX0 _)
      replace hby1 := Bytes.near hby1 hC5 (fun ad _ => hX0 _)
      have HK := Lib.hid (And.intro HR.out.1 (And.intro HR.out.2.1 hnr5))
      clear HR hC5 hnr5 HQ
      cases q
      · have hC5m := (Near.refl [gm] w5).drew
        have hLl : (Go.wr L (256 * at_) (b.take (256 * i))).length = N * 256 := by rw [wr_length (by rw [List.length_take]; have := HN.out; omega)]; exact HN.out.2.2.2.2
        obtain ⟨L1, hL1⟩ : ∃ L1, L1 = Go.wr L (256 * at_) (b.take (256 * i)) := ⟨_, rfl⟩
        rw [← hL1] at hd hLl
        have HL1 := Lib.hid (And.intro hL1 hLl)
        clear hL1 hLl
        go_wp2_with fail
        refine wp_region_tree (Near [gm] w5) [] (PlanT.takes [5, 12] (PlanT.takes [0, 4, 7, 11] (PlanT.takes [1, 2, 6, 8, 9, 13] (PlanT.takes [3, 10] (PlanT.takes [14] (PlanT.takes [15] (.opt 16 .done .no))))))) (by kernel_rfl) (by kernel_rfl) (hC5m) ?_
        refine wpTree_pure _ _ _ (by rfl) (by rfl) ?_
        dsimp only [List.filterMap, List.getElem?_cons_zero, List.getElem?_cons_succ]
        repeat (go_big_quiet_step (fail))
        refine wpQuiet_nil ?_
        refine wpTree_takeL _ _ _ (by rfl) (by rfl) (hC5m) ?_
        dsimp only [List.filterMap, List.getElem?_cons_zero, List.getElem?_cons_succ]
        (refine wpQuiet_load_cell (fun w' hw' => (Blk.near hp1 hw' (HXM.out.1)).at_ 0 (v := .pointer (some ⟨gd, 0, none⟩)) rfl) (by rfl) _ _ (by rfl) (by rfl) _ Tryd.underlying25 (by rfl) ?_; simp only [Act.put, List.setIfInBounds_toArray, List.set_cons_zero, List.set_cons_succ])
        (refine wpQuiet_load_cell (fun w' hw' => (Blk.near ha1 hw' (HXM.out.2.1)).at_ 0 (v := .int .i64 (at_ : Int)) rfl) (by rfl) _ _ (by rfl) (by rfl) _ Tryd.underlying3 (by rfl) ?_; simp only [Act.put, List.setIfInBounds_toArray, List.set_cons_zero, List.set_cons_succ])
        (refine wpQuiet_load_cell (fun w' hw' => (Blk.near hp1 hw' (HXM.out.1)).at_ 0 (v := .pointer (some ⟨gd, 0, none⟩)) rfl) (by rfl) _ _ (by rfl) (by rfl) _ Tryd.underlying25 (by rfl) ?_; simp only [Act.put, List.setIfInBounds_toArray, List.set_cons_zero, List.set_cons_succ])
        (refine wpQuiet_load_cell (fun w' hw' => (Blk.near ha1 hw' (HXM.out.2.1)).at_ 0 (v := .int .i64 (at_ : Int)) rfl) (by rfl) _ _ (by rfl) (by rfl) _ Tryd.underlying3 (by rfl) ?_; simp only [Act.put, List.setIfInBounds_toArray, List.set_cons_zero, List.set_cons_succ])
        refine wpQuiet_nil ?_
        refine wpTree_pure _ _ _ (by rfl) (by rfl) ?_
        dsimp only [List.filterMap, List.getElem?_cons_zero, List.getElem?_cons_succ]
        repeat (go_big_quiet_step (fail))
        refine wpQuiet_nil ?_
        refine wpTree_takeL _ _ _ (by rfl) (by rfl) (hC5m) ?_
        dsimp only [List.filterMap, List.getElem?_cons_zero, List.getElem?_cons_succ]
        (refine wpQuiet_load_cell (fun w' hw' => (Blk.near hd.1 hw' (HXM.out.2.2.1)).at_ 1 (v := .map (some gm)) rfl) (by rfl) _ _ (by rfl) (by rfl) _ Tryd.underlying102 (by rfl) ?_; simp only [Act.put, List.setIfInBounds_toArray, List.set_cons_zero, List.set_cons_succ])
        (refine wpQuiet_load_cell (fun w' hw' => (Blk.near hd.1 hw' (HXM.out.2.2.1)).at_ 0 (v := .slice (some ⟨gl, 0, none⟩) N N) rfl) (by rfl) _ _ (by rfl) (by rfl) _ Tryd.underlying101 (by rfl) ?_; simp only [Act.put, List.setIfInBounds_toArray, List.set_cons_zero, List.set_cons_succ])
        refine wpQuiet_nil ?_
        refine wpTree_pure _ _ _ (by rfl) (by rfl) ?_
        dsimp only [List.filterMap, List.getElem?_cons_zero, List.getElem?_cons_succ]
        repeat (go_big_quiet_step (fail))
        refine wpQuiet_nil ?_
        refine wpTree_takeL _ _ _ (by rfl) (by rfl) (hC5m) ?_
        dsimp only [List.filterMap, List.getElem?_cons_zero, List.getElem?_cons_succ]
        (refine wpQuiet_load_mid (fun w' hw' => sec_mid' w' (hd.2.1.near hw' HXM.out.2.2.2.1) (at_ + i) (by rw [HL1.out.2]; omega)) (by rfl) _ _ (by rfl) (by rfl) _ Tryd.underlying145 (by rfl) (sizeSec) (by rw [List.length_map, sec_length _ (by rw [HL1.out.2]; omega)]) ?_; simp only [Act.put, List.setIfInBounds_toArray, List.set_cons_zero, List.set_cons_succ])
        refine wpQuiet_nil ?_
        refine wpTree_one _ rfl ?_
        refine wpList_mapUpdate_int (by rfl) _ _ _ _ _ _ (by rfl) Tryd.underlying102 Tryd.underlying3 gm es1 c1 hd.2.2.drew HK.out.1 ((at_ : Int) + i) (.agg ((sec L1 (at_ + i)).map u8v).toArray) (by rfl) (by rfl) (by rfl) ?_
        intro w6 hm6 hu6
        have hC6 : Near [gm] w5 w6 := hC5m.trans (Near.upd hu6 (List.mem_singleton.2 rfl))
        go_wp2_with fail
        refine TreeQ.in_ hC6 ?_
        refine wpTree_done ?_
        have hsl : (sec L1 (at_ + i)).length = 256 := sec_length _ (by rw [HL1.out.2]; omega)
        have hik : IntKeys (mput es1 c1 ((at_ : Int) + i) (.agg ((sec L1 (at_ + i)).map u8v).toArray)).1.toList := HK.out.1.put
        have hsv : SecVals (mput es1 c1 ((at_ : Int) + i) (.agg ((sec L1 (at_ + i)).map u8v).toArray)).1.toList := HK.out.2.1.put hsl
        have ho2 : OldIs (mput es1 c1 ((at_ : Int) + i) (.agg ((sec L1 (at_ + i)).map u8v).toArray)).1 (mput es1 c1 ((at_ : Int) + i) (.agg ((sec L1 (at_ + i)).map u8v).toArray)).2 (oldW old L at_ (i + 1)) := by
          have hn0 : old (at_ + i) = none := by have h := HO.out.2; cases hx : old (at_ + i) with
            | none => rfl
            | some l => rw [hx] at h; cases h
          have h1 := HO.out.1.put (k := at_ + i) (l := sec L1 (at_ + i)) (by rw [oldW_at]; exact hn0) hsl
          have e1 : sec L1 (at_ + i) = sec L (at_ + i) := by rw [HL1.out.1]; exact sec_wr_behind (by have := HN.out; omega) (by have := HN.out; omega)
          rw [show ((at_ + i : Nat) : Int) = (at_ : Int) + i by omega] at h1
          rw [← oldW_new hn0, ← e1]; exact h1
        replace hd : DiskB w6 gd gl gm N L1 _ _ out fz ops := ⟨hd.1.near hC6 HXM.out.2.2.1, hd.2.1.near hC6 HXM.out.2.2.2.1, hm6⟩
        generalize (mput es1 c1 ((at_ : Int) + i) (.agg ((sec L1 (at_ + i)).map u8v).toArray)).1 = es2 at hd hik hsv ho2
        generalize (mput es1 c1 ((at_ : Int) + i) (.agg ((sec L1 (at_ + i)).map u8v).toArray)).2 = c2 at hd ho2
        rw [HL1.out.1] at hd
        have hk2 := And.intro hik (And.intro ho2 (HK.out.2.2.trans (hC6.wider (fun x hx => by simp at hx; simp [hx]))))
        replace hp1 := hp1.near hC6 HXM.out.1
        replace ha1 := ha1.near hC6 HXM.out.2.1
        replace hb1 := hb1.near hC6 HXM.out.2.2.2.2
        replace hby1 := Bytes.near hby1 hC6 (fun ad e => by have h := HH.out.2.2.2.2.2 ad e; simp at h ⊢; exact h.2)
        have HK2 := Lib.hid hk2
        clear hC6 hm6 hu6 hsl hik hsv ho2 hk2 hC5m HK HL1 HO
        have hC7 := (Near.refl [gl] w6).drew
        have hsb : (sec b i).length = 256 := sec_length _ (by have := HN.out; omega)
        obtain ⟨bb, boff, hAe, hbl0, -⟩ := hby1.at_ (by have := HN.out; omega)
        have hcn : ¬ cap = i * 256 := by have := HN.out; omega
        have hc2 : (i + 1) * 256 ≤ cap := by have := HN.out; omega
        have hc3 : i * 256 ≤ cap := by omega
        have hbm : Bytes w6 (some ⟨bb, boff + i * 256, none⟩) (sec b i) := by
          have h := hby1.drop (k := i * 256) (cap := cap) (.inl (by omega))
          rw [if_neg hcn, hAe] at h
          have h2 := h.take 256
          rw [Nat.mul_comm i 256] at h2
          unfold sec
          rw [Nat.mul_comm i 256]
          simpa [Addr.add_lit] using h2
        have hbbl : bb ∉ [gl] := by have h := HH.out.2.2.2.2.2 _ hAe; simp at h ⊢; exact h.1
        subst hAe
        have HSB := Lib.hid (And.intro hsb (And.intro hbm hbbl))
        clear hsb hbm hbbl hbl0
        go_wp2_with fail
        refine wp_region_tree (Near [gl] w6) [] (PlanT.takes [5, 8, 9, 10, 11, 12] (PlanT.takes [0, 4, 7] (PlanT.takes [1, 2, 6, 13, 14] (PlanT.takes [3, 15] (PlanT.takes [16] (.opt 17 .done .no)))))) (by kernel_rfl) (by kernel_rfl) (hC7) ?_
        refine wpTree_pure _ _ _ (by rfl) (by rfl) ?_
        dsimp only [List.filterMap, List.getElem?_cons_zero, List.getElem?_cons_succ]
        repeat (go_big_quiet_step (fail))
        refine wpQuiet_nil ?_
        refine wpTree_takeL _ _ _ (by rfl) (by rfl) (hC7) ?_
        dsimp only [List.filterMap, List.getElem?_cons_zero, List.getElem?_cons_succ]
        (refine wpQuiet_load_cell (fun w' hw' => (Blk.near hp1 hw' (HXL.out.1)).at_ 0 (v := .pointer (some ⟨gd, 0, none⟩)) rfl) (by rfl) _ _ (by rfl) (by rfl) _ Tryd.underlying25 (by rfl) ?_; simp only [Act.put, List.setIfInBounds_toArray, List.set_cons_zero, List.set_cons_succ])
        (refine wpQuiet_load_cell (fun w' hw' => (Blk.near ha1 hw' (HXL.out.2.1)).at_ 0 (v := .int .i64 (at_ : Int)) rfl) (by rfl) _ _ (by rfl) (by rfl) _ Tryd.underlying3 (by rfl) ?_; simp only [Act.put, List.setIfInBounds_toArray, List.set_cons_zero, List.set_cons_succ])
        (refine wpQuiet_load_cell (fun w' hw' => (Blk.near hb1 hw' (HXL.out.2.2.1)).at_ 0 (v := .slice (some ⟨bb, boff, none⟩) b.length cap) rfl) (by rfl) _ _ (by rfl) (by rfl) _ Tryd.underlying22 (by rfl) ?_; simp only [Act.put, List.setIfInBounds_toArray, List.set_cons_zero, List.set_cons_succ])
        refine wpQuiet_nil ?_
        refine wpTree_pure _ _ _ (by rfl) (by rfl) ?_
        dsimp only [List.filterMap, List.getElem?_cons_zero, List.getElem?_cons_succ]
        repeat (go_big_quiet_step (fail))
        refine wpQuiet_array (by rfl) _ _ (by rfl) 256 _ Tryd.underlying145 (some ⟨bb, boff + i * 256, none⟩) ((i + 1) * 256 - i * 256) (cap - i * 256) (by rfl) (by omega) ?_
        simp only [Act.put, List.setIfInBounds_toArray, List.set_cons_zero, List.set_cons_succ]
        refine wpQuiet_nil ?_
        refine wpTree_takeL _ _ _ (by rfl) (by rfl) (hC7) ?_
        dsimp only [List.filterMap, List.getElem?_cons_zero, List.getElem?_cons_succ]
        (refine wpQuiet_load_cell (fun w' hw' => (Blk.near hd.1 hw' (HXL.out.2.2.2.1)).at_ 0 (v := .slice (some ⟨gl, 0, none⟩) N N) rfl) (by rfl) _ _ (by rfl) (by rfl) _ Tryd.underlying101 (by rfl) ?_; simp only [Act.put, List.setIfInBounds_toArray, List.set_cons_zero, List.set_cons_succ])
        (refine wpQuiet_load_mid (fun w' hw' => Bytes.range (Bytes.near HSB.out.2.1 hw' (fun ad e => by cases e; exact HSB.out.2.2))) (by rfl) _ _ (by rfl) (by rfl) _ Tryd.underlying145 (by rfl) (sizeSec) (by rw [List.length_map, HSB.out.1]) ?_; simp only [Act.put, List.setIfInBounds_toArray, List.set_cons_zero, List.set_cons_succ])
        refine wpQuiet_nil ?_
        refine wpTree_pure _ _ _ (by rfl) (by rfl) ?_
        dsimp only [List.filterMap, List.getElem?_cons_zero, List.getElem?_cons_succ]
        repeat (go_big_quiet_step (fail))
        refine wpQuiet_nil ?_
        have hlw : (Go.wr L (256 * at_) (b.take (256 * i))).length = N * 256 := by rw [wr_length (by rw [List.length_take]; have := HN.out; omega)]; exact HN.out.2.2.2.2
        have hlt2 : (b.take (256 * i)).length = 256 * i := by rw [List.length_take]; have := HN.out; omega
        refine wpTree_one _ rfl ?_
        refine wpList_store_in hd.2.1.drew (by rfl) _ _ _ (by rfl) ((at_ + i) * 256) (by rfl) ((sec b i).map u8v).toArray (by rfl) sizeSec (by rw [List.size_toArray, List.length_map, HSB.out.1]) (by rw [List.size_toArray, List.length_map, hlw]; omega) (sec_one _) ?_
        intro w8 h8 hu8
        have hC8 : Near [gl] w6 w8 := hC7.trans (Near.upd hu8 (List.mem_singleton.2 rfl))
        have e8 : setAll ((Go.wr L (256 * at_) (b.take (256 * i))).map u8v).toArray ((at_ + i) * 256) ((sec b i).map u8v).toArray.toList = ((Go.wr L (256 * at_) (b.take (256 * (i + 1)))).map u8v).toArray := by
          rw [List.toList_toArray, setAll_wr _ _ _ (by rw [hlw, HSB.out.1]; omega)]
          have e1 : (at_ + i) * 256 = 256 * at_ + (b.take (256 * i)).length := by rw [hlt2]; omega
          rw [e1, wr_wr (by rw [hlt2, HSB.out.1]; have := HN.out; omega)]
          have e2 : b.take (256 * i) ++ sec b i = b.take (256 * (i + 1)) := by unfold sec; rw [Nat.mul_add, Nat.mul_one, List.take_add]
          rw [e2]
        rw [e8] at h8
        replace hd : DiskB w8 gd gl gm N _ _ _ out fz ops := ⟨hd.1.near hC8 HXL.out.2.2.2.1, h8, hd.2.2.near hC8 HXL.out.2.2.2.2⟩
        have HF := Lib.hid (show WrRel w old gd gl gm N at_ n L b out fz ops (.int .i64 ((i + 1 : Nat) : Int)) w8 from
          ⟨i + 1, es2, c2, by omega, rfl, hd, HK2.out.2.1, HK2.out.2.2.trans (hC8.wider (fun x hx => by simp at hx; simp [hx]))⟩)
        go_wp2_with fail
        refine TreeQ.in_ hC8 ?_
        refine wpTree_done ?_
        clear hd e8 h8 hu8 hC8 hp1 ha1 hb1 hby1 HSB HK2
        go_wp2
        go_roundw
        case rel => exact HF.out
        case measure => simp [intOf]; omega
      · have ho2 : OldIs es1 c1 (oldW old L at_ (i + 1)) := by
          have h := HO.out.2
          cases hx : old (at_ + i) with
          | none => rw [hx] at h; cases h
          | some l => rw [oldW_has hx]; exact HO.out.1
        have HK2 := Lib.hid (And.intro HK.out.1 (And.intro ho2 HK.out.2.2))
        clear HK HO ho2
        have hC7 := (Near.refl [gl] w5).drew
        have hsb : (sec b i).length = 256 := sec_length _ (by have := HN.out; omega)
        obtain ⟨bb, boff, hAe, hbl0, -⟩ := hby1.at_ (by have := HN.out; omega)
        have hcn : ¬ cap = i * 256 := by have := HN.out; omega
        have hc2 : (i + 1) * 256 ≤ cap := by have := HN.out; omega
        have hc3 : i * 256 ≤ cap := by omega
        have hbm : Bytes w5 (some ⟨bb, boff + i * 256, none⟩) (sec b i) := by
          have h := hby1.drop (k := i * 256) (cap := cap) (.inl (by omega))
          rw [if_neg hcn, hAe] at h
          have h2 := h.take 256
          rw [Nat.mul_comm i 256] at h2
          unfold sec
          rw [Nat.mul_comm i 256]
          simpa [Addr.add_lit] using h2
        have hbbl : bb ∉ [gl] := by have h := HH.out.2.2.2.2.2 _ hAe; simp at h ⊢; exact h.1
        subst hAe
        have HSB := Lib.hid (And.intro hsb (And.intro hbm hbbl))
        clear hsb hbm hbbl hbl0
        go_wp2_with fail
        refine wp_region_tree (Near [gl] w5) [] (PlanT.takes [5, 8, 9, 10, 11, 12] (PlanT.takes [0, 4, 7] (PlanT.takes [1, 2, 6, 13, 14] (PlanT.takes [3, 15] (PlanT.takes [16] (.opt 17 .done .no)))))) (by kernel_rfl) (by kernel_rfl) (hC7) ?_
        refine wpTree_pure _ _ _ (by rfl) (by rfl) ?_
        dsimp only [List.filterMap, List.getElem?_cons_zero, List.getElem?_cons_succ]
        repeat (go_big_quiet_step (fail))
        refine wpQuiet_nil ?_
        refine wpTree_takeL _ _ _ (by rfl) (by rfl) (hC7) ?_
        dsimp only [List.filterMap, List.getElem?_cons_zero, List.getElem?_cons_succ]
        (refine wpQuiet_load_cell (fun w' hw' => (Blk.near hp1 hw' (HXL.out.1)).at_ 0 (v := .pointer (some ⟨gd, 0, none⟩)) rfl) (by rfl) _ _ (by rfl) (by rfl) _ Tryd.underlying25 (by rfl) ?_; simp only [Act.put, List.setIfInBounds_toArray, List.set_cons_zero, List.set_cons_succ])
        (refine wpQuiet_load_cell (fun w' hw' => (Blk.near ha1 hw' (HXL.out.2.1)).at_ 0 (v := .int .i64 (at_ : Int)) rfl) (by rfl) _ _ (by rfl) (by rfl) _ Tryd.underlying3 (by rfl) ?_; simp only [Act.put, List.setIfInBounds_toArray, List.set_cons_zero, List.set_cons_succ])
        (refine wpQuiet_load_cell (fun w' hw' => (Blk.near hb1 hw' (HXL.out.2.2.1)).at_ 0 (v := .slice (some ⟨bb, boff, none⟩) b.length cap) rfl) (by rfl) _ _ (by rfl) (by rfl) _ Tryd.underlying22 (by rfl) ?_; simp only [Act.put, List.setIfInBounds_toArray, List.set_cons_zero, List.set_cons_succ])
        refine wpQuiet_nil ?_
        refine wpTree_pure _ _ _ (by rfl) (by rfl) ?_
        dsimp only [List.filterMap, List.getElem?_cons_zero, List.getElem?_cons_succ]
        repeat (go_big_quiet_step (fail))
        refine wpQuiet_array (by rfl) _ _ (by rfl) 256 _ Tryd.underlying145 (some ⟨bb, boff + i * 256, none⟩) ((i + 1) * 256 - i * 256) (cap - i * 256) (by rfl) (by omega) ?_
        simp only [Act.put, List.setIfInBounds_toArray, List.set_cons_zero, List.set_cons_succ]
        refine wpQuiet_nil ?_
        refine wpTree_takeL _ _ _ (by rfl) (by rfl) (hC7) ?_
        dsimp only [List.filterMap, List.getElem?_cons_zero, List.getElem?_cons_succ]
        (refine wpQuiet_load_cell (fun w' hw' => (Blk.near hd.1 hw' (HXL.out.2.2.2.1)).at_ 0 (v := .slice (some ⟨gl, 0, none⟩) N N) rfl) (by rfl) _ _ (by rfl) (by rfl) _ Tryd.underlying101 (by rfl) ?_; simp only [Act.put, List.setIfInBounds_toArray, List.set_cons_zero, List.set_cons_succ])
        (refine wpQuiet_load_mid (fun w' hw' => Bytes.range (Bytes.near HSB.out.2.1 hw' (fun ad e => by cases e; exact HSB.out.2.2))) (by rfl) _ _ (by rfl) (by rfl) _ Tryd.underlying145 (by rfl) (sizeSec) (by rw [List.length_map, HSB.out.1]) ?_; simp only [Act.put, List.setIfInBounds_toArray, List.set_cons_zero, List.set_cons_succ])
        refine wpQuiet_nil ?_
        refine wpTree_pure _ _ _ (by rfl) (by rfl) ?_
        dsimp only [List.filterMap, List.getElem?_cons_zero, List.getElem?_cons_succ]
        repeat (go_big_quiet_step (fail))
        refine wpQuiet_nil ?_
        have hlw : (Go.wr L (256 * at_) (b.take (256 * i))).length = N * 256 := by rw [wr_length (by rw [List.length_take]; have := HN.out; omega)]; exact HN.out.2.2.2.2
        have hlt2 : (b.take (256 * i)).length = 256 * i := by rw [List.length_take]; have := HN.out; omega
        refine wpTree_one _ rfl ?_
        refine wpList_store_in hd.2.1.drew (by rfl) _ _ _ (by rfl) ((at_ + i) * 256) (by rfl) ((sec b i).map u8v).toArray (by rfl) sizeSec (by rw [List.size_toArray, List.length_map, HSB.out.1]) (by rw [List.size_toArray, List.length_map, hlw]; omega) (sec_one _) ?_
        intro w8 h8 hu8
        have hC8 : Near [gl] w5 w8 := hC7.trans (Near.upd hu8 (List.mem_singleton.2 rfl))
        have e8 : setAll ((Go.wr L (256 * at_) (b.take (256 * i))).map u8v).toArray ((at_ + i) * 256) ((sec b i).map u8v).toArray.toList = ((Go.wr L (256 * at_) (b.take (256 * (i + 1)))).map u8v).toArray := by
          rw [List.toList_toArray, setAll_wr _ _ _ (by rw [hlw, HSB.out.1]; omega)]
          have e1 : (at_ + i) * 256 = 256 * at_ + (b.take (256 * i)).length := by rw [hlt2]; omega
          rw [e1, wr_wr (by rw [hlt2, HSB.out.1]; have := HN.out; omega)]
          have e2 : b.take (256 * i) ++ sec b i = b.take (256 * (i + 1)) := by unfold sec; rw [Nat.mul_add, Nat.mul_one, List.take_add]
          rw [e2]
        rw [e8] at h8
        replace hd : DiskB w8 gd gl gm N _ _ _ out fz ops := ⟨hd.1.near hC8 HXL.out.2.2.2.1, h8, hd.2.2.near hC8 HXL.out.2.2.2.2⟩
        have HF := Lib.hid (show WrRel w old gd gl gm N at_ n L b out fz ops (.int .i64 ((i + 1 : Nat) : Int)) w8 from
          ⟨i + 1, es1, c1, by omega, rfl, hd, HK2.out.2.1, HK2.out.2.2.trans (hC8.wider (fun x hx => by simp at hx; simp [hx]))⟩)
        go_wp2_with fail
        refine TreeQ.in_ hC8 ?_
        refine wpTree_done ?_
        clear hd e8 h8 hu8 hC8 hp1 ha1 hb1 hby1 HSB HK2
        go_wp2
        go_roundw
        case rel => exact HF.out
        case measure => simp [intOf]; omega
end
end Go.Proofs.YtgkljncigbiffaaDoor
