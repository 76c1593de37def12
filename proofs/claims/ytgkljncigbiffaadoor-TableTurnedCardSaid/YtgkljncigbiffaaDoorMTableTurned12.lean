/- The bodies and the first keys of data blocks, as they are put together. Plain facts of this program. No condition. -/
import Derived.Test.YtgkljncigbiffaaDoorMTableTurned11
namespace Go.Proofs.YtgkljncigbiffaaDoor
open Go.RowKit
/-- The bodies of groups, each in memory of its own. -/
structure BodsAt (w : World) (base : Nat) (v : Value) (G : List (List PairT)) (bs sp : List Value) : Prop where
  own : OwnsC 22 1 w base v G.length bs sp
  each : ∀ (i : Nat) (g : List PairT), G[i]? = some g → ∃ (u : Value) (s : List UInt8), bs[i]? = some u ∧ OwnB 5 w base u (gbody g) s
  apart : ∀ (i j : Nat) (u u' : Value) (x : Nat), i ≠ j → bs[i]? = some u → bs[j]? = some u' → u.ownBlock = some x → u'.ownBlock ≠ some x
/-- The first keys of groups: they lie where they came from. -/
structure KeysN (N : Nat → Prop) (w : World) (base : Nat) (v : Value) (G : List (List PairT)) (ks sp : List Value) : Prop where
  own : OwnsC 22 1 w base v G.length ks sp
  each : ∀ (i : Nat) (g : List PairT), G[i]? = some g → ∃ (A : Option Addr) (c : Nat), ks[i]? = some (.slice A (gkey g).length c) ∧ (gkey g).length ≤ c ∧ c ≤ 9223372036854775807 ∧ Bytes w A (gkey g) ∧ ∀ ad, A = some ad → ad.block < base ∧ N ad.block
abbrev KeysAt : World → Nat → Value → List (List PairT) → List Value → List Value → Prop := KeysN fun _ => True
section
variable {N : Nat → Prop} {w w' : World} {base : Nat} {v v' : Value} {G : List (List PairT)} {bs sp ks : List Value} {X : List Nat}
theorem BodsAt.len (h : BodsAt w base v G bs sp) : bs.length = G.length := by rw [OwnsC.length h.own, Nat.mul_one]
theorem BodsAt.u8 (h : BodsAt w base v G bs sp) {i : Nat} {u : Value} (hu : bs[i]? = some u) {x : Nat} (hx : u.ownBlock = some x) : ∃ cs, Blk w x 5 cs := by
  have hi : i < G.length := by rw [← h.len]; exact (List.getElem?_eq_some_iff.1 hu).1
  obtain ⟨u', s, h1, h2⟩ := h.each i _ (List.getElem?_eq_getElem hi)
  rw [hu] at h1; injection h1 with h1; subst h1
  exact ownBlk h2 hx
theorem BodsAt.near (h : BodsAt w base v G bs sp) (k : Near X w w') (h1 : ∀ x, v.ownBlock = some x → x ∉ X) (h2 : ∀ (i : Nat) (u : Value) (x : Nat), bs[i]? = some u → u.ownBlock = some x → x ∉ X) : BodsAt w' base v G bs sp :=
  ⟨OwnsC.nearO h.own k h1, fun i g hg => by
    obtain ⟨u, s, e1, e2⟩ := h.each i g hg
    exact ⟨u, s, e1, OwnsC.nearO e2 k (fun x hx => h2 i u x e1 hx)⟩, h.apart⟩
theorem BodsAt.below (h : BodsAt w base v G bs sp) (k : Below w.heap.size w w') : BodsAt w' base v G bs sp := h.near (X := []) (Near.below k) (by simp) (by simp)
theorem KeysN.near (h : KeysN N w base v G ks sp) (k : Near X w w') (h1 : ∀ x, v.ownBlock = some x → x ∉ X) (h2 : ∀ x ∈ X, base ≤ x) : KeysN N w' base v G ks sp :=
  ⟨OwnsC.nearO h.own k h1, fun i g hg => by
    obtain ⟨A, c, e1, e2, e3, e4, e5⟩ := h.each i g hg
    exact ⟨A, c, e1, e2, e3, Bytes.near e4 k (fun ad e hx => by have := (e5 ad e).1; have := h2 _ hx; omega), e5⟩⟩
theorem KeysN.below (h : KeysN N w base v G ks sp) (k : Below w.heap.size w w') : KeysN N w' base v G ks sp := h.near (X := []) (Near.below k) (by simp) (by simp)
/-- A new body. -/
theorem BodsAt.add (h : BodsAt w base v G bs sp) {p : PairT} {u : Value} {sp' : List Value} {s8 : List UInt8} (hu : OwnB 5 w base u (pbytes p) s8) (hn : ∀ (i : Nat) (b : Value) (x : Nat), bs[i]? = some b → b.ownBlock = some x → u.ownBlock ≠ some x)
    (hg : Near v.ownBlock.toList w w') (ho : OwnsC 22 1 w' base v' (G.length + 1) (bs ++ [u]) sp') : BodsAt w' base v' (G ++ [[p]]) (bs ++ [u]) sp' := by
  have hx : ∀ x, v.ownBlock = some x → ∃ cs, Blk w x 22 cs := fun x hx => ownBlk h.own hx
  have off : ∀ x, (∃ cs, Blk w x 5 cs) → x ∉ v.ownBlock.toList := fun x ⟨cs, hb⟩ hm => by
    obtain ⟨cs', hb'⟩ := hx x (Option.mem_toList.1 hm)
    exact hb.apart hb' (by decide) rfl
  have hlen := h.len
  refine ⟨by rw [List.length_append]; exact ho, fun i g hgi => ?_, fun i j a b x hij ha hb hxa hxb => ?_⟩
  · rw [List.getElem?_append] at hgi
    split at hgi
    · rename_i hi
      obtain ⟨u', s', e1, e2⟩ := h.each i g hgi
      refine ⟨u', s', by rw [List.getElem?_append_left (by omega)]; exact e1, OwnsC.nearO e2 hg (fun x hx => off x (ownBlk e2 hx))⟩
    · rename_i hi
      have : i = G.length := by
        have := (List.getElem?_eq_some_iff.1 hgi).1
        simp only [List.length_singleton] at this; omega
      subst this
      rw [Nat.sub_self] at hgi
      injection hgi with hgi
      subst hgi
      refine ⟨u, s8, by rw [← hlen, List.getElem?_append_right (Nat.le_refl _), Nat.sub_self]; rfl, ?_⟩
      rw [gbody_one]
      exact OwnsC.nearO hu hg (fun x hx => off x (ownBlk hu hx))
  · have key : ∀ {i : Nat} {b : Value}, (bs ++ [u])[i]? = some b → bs[i]? = some b ∨ (i = bs.length ∧ b = u) := fun {i b} hb => by
      rw [List.getElem?_append] at hb
      split at hb
      · exact .inl hb
      · rename_i hi
        have : i = bs.length := by
          have := (List.getElem?_eq_some_iff.1 hb).1
          simp only [List.length_singleton] at this; omega
        subst this
        rw [Nat.sub_self] at hb
        injection hb with hb
        exact .inr ⟨rfl, hb.symm⟩
    rcases key ha with ha | ⟨ei, ea⟩ <;> rcases key hb with hb | ⟨ej, eb⟩
    · exact h.apart i j a b x hij ha hb hxa hxb
    · rw [eb] at hxb; exact hn i a x ha hxa hxb
    · rw [ea] at hxa; exact hn j b x hb hxb hxa
    · omega
theorem KeysN.add (h : KeysN N w base v G ks sp) {p : PairT} {A : Option Addr} {c : Nat} {sp' : List Value} (h1 : p.1.length ≤ c) (h2 : c ≤ 9223372036854775807) (hb : Bytes w A p.1) (hA : ∀ ad, A = some ad → ad.block < base ∧ N ad.block)
    (hg : Near v.ownBlock.toList w w') (ho : OwnsC 22 1 w' base v' (G.length + 1) (ks ++ [.slice A p.1.length c]) sp') : KeysN N w' base v' (G ++ [[p]]) (ks ++ [.slice A p.1.length c]) sp' := by
  have hlen : ks.length = G.length := by rw [OwnsC.length h.own, Nat.mul_one]
  have hlow : ∀ x ∈ v.ownBlock.toList, base ≤ x := fun x hx => (OwnsC.lt h.own x (Option.mem_toList.1 hx)).1
  refine ⟨by rw [List.length_append]; exact ho, fun i g hgi => ?_⟩
  rw [List.getElem?_append] at hgi
  split at hgi
  · obtain ⟨A', c', e1, e2, e3, e4, e5⟩ := h.each i g hgi
    exact ⟨A', c', by rw [List.getElem?_append_left (by omega)]; exact e1, e2, e3, Bytes.near e4 hg (fun ad e hx => by have := (e5 ad e).1; have := hlow _ hx; omega), e5⟩
  · have : i = G.length := by
      have := (List.getElem?_eq_some_iff.1 hgi).1
      simp only [List.length_singleton] at this; omega
    subst this
    rw [Nat.sub_self] at hgi
    injection hgi with hgi
    subst hgi
    exact ⟨A, c, by rw [← hlen, List.getElem?_append_right (Nat.le_refl _), Nat.sub_self]; rfl, h1, h2, Bytes.near hb hg (fun ad e hx => by have := hA ad e; have := hlow _ hx; omega), hA⟩
/-- The last body has grown. -/
theorem BodsAt.more {g : List PairT} (h : BodsAt w base v (G ++ [g]) bs sp) {p : PairT} {u u' : Value} {s8 : List UInt8} (hu : bs[G.length]? = some u) (hu' : OwnB 5 w' base u' (gbody g ++ pbytes p) s8) (hnew : u'.ownBlock = u.ownBlock ∨ u'.ownBlock = some w.heap.size)
    (hg : Near u.ownBlock.toList w w') {gb : Nat} (hv : v.ownBlock = some gb) : BodsAt (w'.setCell ⟨gb, G.length, none⟩ u') base v (G ++ [g ++ [p]]) (bs.set G.length u') sp := by
  have hlen := h.len
  rw [List.length_append, List.length_singleton] at hlen
  obtain ⟨csv, hvb⟩ := ownBlk h.own hv
  have off : ∀ x, (∃ cs, Blk w x 5 cs) → x ≠ gb := fun x ⟨cs, hb⟩ e => by subst e; exact hb.apart hvb (by decide) rfl
  have hux : ∀ x, u'.ownBlock = some x → ∃ cs, Blk w' x 5 cs := fun x hx => ownBlk hu' hx
  have hne : ∀ (i : Nat) (b : Value) (x : Nat), i ≠ G.length → bs[i]? = some b → b.ownBlock = some x → x ∉ u.ownBlock.toList ∧ u'.ownBlock ≠ some x := fun i b x hi hb hx => by
    have h0 : u.ownBlock ≠ some x := h.apart i G.length b u x hi hb hu hx
    refine ⟨fun hm => h0 (Option.mem_toList.1 hm), fun e => ?_⟩
    rcases hnew with e2 | e2
    · exact h0 (e2 ▸ e)
    · obtain ⟨cs, hbk⟩ := h.u8 hb hx
      rw [e2] at e; injection e with e
      have := hbk.lt; omega
  have hgu : gb ∉ u.ownBlock.toList := fun hm => off _ (h.u8 hu (Option.mem_toList.1 hm)) rfl
  have hvo : OwnsC 22 1 (w'.setCell ⟨gb, G.length, none⟩ u') base v (G.length + 1) (bs.set G.length u') sp := by
    have ho := h.own
    rw [List.length_append, List.length_singleton] at ho
    rcases ho with ⟨rfl, h0, _⟩ | ⟨g', cap, rfl, hb, hgg, hnc, hcm, hxl, hsl⟩
    · omega
    · have hv' : g' = gb := by simpa [Value.ownBlock] using hv
      subst hv'
      refine .inr ⟨g', cap, rfl, hb, ?_, hnc, hcm, by rw [List.length_set]; exact hxl, hsl⟩
      refine ((hgg.near hg hgu).set_ G.length u').sub ?_
      rw [List.setIfInBounds_toArray, List.set_append_left _ _ (by omega)]
  refine ⟨by rw [List.length_append]; exact hvo, fun i k hi => ?_, fun i j a b x hij ha hb hxa hxb => ?_⟩
  · rw [List.getElem?_append] at hi
    split at hi
    · rename_i hlt
      obtain ⟨b, s, e1, e2⟩ := h.each i k (by rw [List.getElem?_append_left hlt]; exact hi)
      refine ⟨b, s, by rw [List.getElem?_set_ne (by omega)]; exact e1, OwnsC.off (OwnsC.nearO e2 hg (fun x hx => (hne i b x (by omega) e1 hx).1)) (fun e => off gb (h.u8 e1 e) rfl) u'⟩
    · have : i = G.length := by
        have := (List.getElem?_eq_some_iff.1 hi).1
        simp only [List.length_singleton] at this; omega
      subst this
      rw [Nat.sub_self] at hi
      injection hi with hi
      subst hi
      refine ⟨u', s8, by rw [List.getElem?_set_self (by omega)], ?_⟩
      rw [gbody_append, gbody_one]
      refine OwnsC.off hu' (fun e => ?_) u'
      obtain ⟨cs, hbk⟩ := hux gb e
      exact hbk.apart (hvb.near hg hgu) (by decide) rfl
  · by_cases hi : i = G.length
    · subst hi
      rw [List.getElem?_set_self (by omega)] at ha
      injection ha with ha
      subst ha
      rw [List.getElem?_set_ne hij] at hb
      exact (hne j b x (fun e => hij e.symm) hb hxb).2 hxa
    · rw [List.getElem?_set_ne (fun e => hi e.symm)] at ha
      by_cases hj : j = G.length
      · subst hj
        rw [List.getElem?_set_self (by omega)] at hb
        injection hb with hb
        subst hb
        exact (hne i a x hi ha hxa).2 hxb
      · rw [List.getElem?_set_ne (fun e => hj e.symm)] at hb
        exact h.apart i j a b x hij ha hb hxa hxb
end
end Go.Proofs.YtgkljncigbiffaaDoor

/- A region that draws its order of two rows of operations, each row in its own order: how far each has come is all that is asked. Plain facts over any program. No condition. -/
namespace Go
def PlanT.chainsA (i : Nat) (f : List Nat → PlanT) : List Nat → PlanT
  | [] => .opt i (f []) .no
  | j :: js => if i < j then .opt i (f (j :: js)) (.opt j (PlanT.chainsA i f js) .no) else .opt j (PlanT.chainsA i f js) (.opt i (f (j :: js)) .no)
/-- Two rows of operations, in all orders, and then t. -/
def PlanT.chains (t : PlanT) : List Nat → List Nat → PlanT
  | [], js => js.foldr (fun j t => .opt j t .no) t
  | i :: is, js => PlanT.chainsA i (PlanT.chains t is) js
section
variable {P : Program} {C : World → Prop} {Z : List Nat} {Q : Exit → Act → World → Prop}
/-- What is asked behind an operation. -/
def StepQ (R : Act → World → Prop) (Q : Exit → Act → World → Prop) : Exit → Act → World → Prop
  | .normal, a, w => R a w
  | e, a, w => Q e a w
theorem wpOp_of_list {l : List Oper} {a : Act} {w : World} {i : Nat} {R : Act → World → Prop} (o : Oper) (ho : l[i]? = some o) (h : wpList P l.toArray (StepQ R Q) [o] a w) : wpOp P l.toArray Q i R a w := by
  have ho' : l.toArray[i]? = some o := by rw [List.getElem?_toArray]; exact ho
  unfold wpOp
  simp only [ho']
  unfold wpList at h
  have hmono : ∀ {a : Act} {w : World}, o.wp P a w (wpList P l.toArray (StepQ R Q) []) (StepQ R Q) → o.wp P a w R Q := by
    intro a w h
    unfold Oper.wp at h ⊢
    generalize (execOp a.eval o).run P w = rr at *
    cases rr with
    | ok n w' =>
      cases n <;> simp only [Oper.upon] at h ⊢
      case value u => exact h
      case skip => exact h
      case defer d => exact h
      case enter f args =>
        refine Calls.mono h fun e w'' he => ?_
        cases e <;> exact he
      case row row args => exact Rows.mono h fun u w'' he => he
    | halt x w' => cases x <;> simp only [Oper.upon] at h ⊢; exact h
  split
  · rename_i hw
    rw [if_pos hw] at h
    rcases h with h | ⟨h1, h2⟩
    · exact .inl (hmono h)
    · exact .inr ⟨h1, h2⟩
  · rename_i hw
    rw [if_neg hw] at h
    exact h
theorem wpTree_op {l : List Oper} {a : Act} {w : World} {i : Nat} {r m : PlanT} (h : wpOp P l.toArray Q i (fun a' w' => C w' ∧ wpTree P l.toArray C Z Q r a' w') a w) (hm : wpTree P l.toArray C Z Q m a w) : wpTree P l.toArray C Z Q (.opt i r m) a w :=
  ⟨wpOp_mono (fun _ _ h' => ⟨.inr h'.1, h'.2⟩) h, hm⟩
/-- **TWO ROWS**: R says what holds when so many of each are done. -/
theorem wpTree_chains {l : List Oper} (t : PlanT) (c1 c2 : List Nat) (R : Nat → Nat → Act → World → Prop)
    (h1 : ∀ (i j : Nat) (a : Act) (w : World), (hi : i < c1.length) → j ≤ c2.length → R i j a w → wpOp P l.toArray Q c1[i] (R (i + 1) j) a w)
    (h2 : ∀ (i j : Nat) (a : Act) (w : World), i ≤ c1.length → (hj : j < c2.length) → R i j a w → wpOp P l.toArray Q c2[j] (R i (j + 1)) a w)
    (hC : ∀ (i j : Nat) (a : Act) (w : World), R i j a w → C w) (hend : ∀ a w, R c1.length c2.length a w → wpTree P l.toArray C Z Q t a w) :
    ∀ (a : Act) (w : World), R 0 0 a w → wpTree P l.toArray C Z Q (PlanT.chains t c1 c2) a w := by
  have none1 : ∀ (js : List Nat) (j : Nat) (a : Act) (w : World), j ≤ c2.length → c2.drop j = js → R c1.length j a w → wpTree P l.toArray C Z Q (js.foldr (fun j t => .opt j t .no) t) a w := by
    intro js
    induction js with
    | nil =>
      intro j a w hj hd hR
      obtain rfl : j = c2.length := by have := congrArg List.length hd; rw [List.length_drop, List.length_nil] at this; omega
      exact hend a w hR
    | cons x js ih =>
      intro j a w hj hd hR
      have hlt : j < c2.length := by have := congrArg List.length hd; rw [List.length_drop, List.length_cons] at this; omega
      rw [List.drop_eq_getElem_cons hlt] at hd
      injection hd with e1 e2
      subst e1
      exact wpTree_op (wpOp_mono (fun a' w' h' => ⟨hC _ _ _ _ h', ih (j + 1) a' w' hlt e2 h'⟩) (h2 c1.length j a w (Nat.le_refl _) hlt hR)) trivial
  have main : ∀ (is : List Nat) (i : Nat), i ≤ c1.length → c1.drop i = is → ∀ (js : List Nat) (j : Nat) (a : Act) (w : World), j ≤ c2.length → c2.drop j = js → R i j a w → wpTree P l.toArray C Z Q (PlanT.chains t is js) a w := by
    intro is
    induction is with
    | nil =>
      intro i hi hd js j a w hj hdj hR
      obtain rfl : i = c1.length := by have := congrArg List.length hd; rw [List.length_drop, List.length_nil] at this; omega
      exact none1 js j a w hj hdj hR
    | cons x is ih =>
      intro i hi hd
      have hlt : i < c1.length := by have := congrArg List.length hd; rw [List.length_drop, List.length_cons] at this; omega
      rw [List.drop_eq_getElem_cons hlt] at hd
      injection hd with e1 e2
      subst e1
      intro js
      induction js with
      | nil =>
        intro j a w hj hdj hR
        exact wpTree_op (wpOp_mono (fun a' w' h' => ⟨hC _ _ _ _ h', ih (i + 1) hlt e2 [] j a' w' hj hdj h'⟩) (h1 i j a w hlt hj hR)) trivial
      | cons y js ihj =>
        intro j a w hj hdj hR
        have hltj : j < c2.length := by have := congrArg List.length hdj; rw [List.length_drop, List.length_cons] at this; omega
        have hdj0 := hdj
        rw [List.drop_eq_getElem_cons hltj] at hdj
        injection hdj with e3 e4
        subst e3
        have k1 := wpOp_mono (fun a' w' h' => And.intro (hC _ _ _ _ h') (ih (i + 1) hlt e2 (c2[j] :: js) j a' w' hj hdj0 h')) (h1 i j a w hlt hj hR)
        have k2 := wpOp_mono (fun a' w' h' => And.intro (hC _ _ _ _ h') (ihj (j + 1) a' w' hltj e4 h')) (h2 i j a w hi hltj hR)
        show wpTree P l.toArray C Z Q (if c1[i] < c2[j] then _ else _) a w
        split
        · exact wpTree_op k1 (wpTree_op k2 trivial)
        · exact wpTree_op k2 (wpTree_op k1 trivial)
  exact fun a w hR => main c1 0 (Nat.zero_le _) rfl c2 0 a w (Nat.zero_le _) rfl hR
/-- The same, where R speaks of the frame ahead of both rows. -/
theorem wpTree_rows {l : List Oper} (t : PlanT) (c1 c2 : List Nat) (R : Act → Nat → Nat → Act → World → Prop) (a : Act) (w : World) (h0 : R a 0 0 a w)
    (h1 : ∀ (i j : Nat) (a' : Act) (w' : World), (hi : i < c1.length) → j ≤ c2.length → R a i j a' w' → wpOp P l.toArray Q c1[i] (R a (i + 1) j) a' w')
    (h2 : ∀ (i j : Nat) (a' : Act) (w' : World), i ≤ c1.length → (hj : j < c2.length) → R a i j a' w' → wpOp P l.toArray Q c2[j] (R a i (j + 1)) a' w')
    (hC : ∀ (i j : Nat) (a' : Act) (w' : World), R a i j a' w' → C w') (hend : ∀ a' w', R a c1.length c2.length a' w' → wpTree P l.toArray C Z Q t a' w') :
    wpTree P l.toArray C Z Q (PlanT.chains t c1 c2) a w := wpTree_chains t c1 c2 (R a) h1 h2 hC hend a w h0
end
end Go

/- A region that draws its order, by a plan that branches, where an operation may wait for those that are taken first through others. Plain facts over any program. No condition. -/
namespace Go
section
variable {P : Program} {ops : Array Oper} {md : Region.Mode} {C : World → Prop} {Z : List Nat} {Q : Exit → Act → World → Prop}
/-- Does j wait for i, itself or through others? -/
def Region.waitsT (md : Region.Mode) (ops : Array Oper) : Nat → Nat → Nat → Bool
  | 0, j, i => Region.waitsFor md ops j i
  | n + 1, j, i => Region.waitsFor md ops j i || (match ops[j]? with | some oj => oj.after.any (fun e => Region.binds md e && Region.waitsT md ops n e.on i) | none => false)
def Region.Pre (md : Region.Mode) (ops : Array Oper) (s : Array Bool) (j : Nat) : Prop := ∀ oj, ops[j]? = some oj → ∀ e ∈ oj.after, Region.binds md e = true → s.getD e.on false = true
/-- What is done has all that it waits for done. -/
def Region.Down (md : Region.Mode) (ops : Array Oper) (s : Array Bool) : Prop := ∀ k, s.getD k false = true → Region.Pre md ops s k
theorem Region.waitsT_spec {s : Array Bool} (hD : Region.Down md ops s) : ∀ (n j i : Nat), Region.Pre md ops s j → Region.waitsT md ops n j i = true → s.getD i false = true
  | 0, j, i, hp, h => by
    obtain ⟨oj, hoj, e, he, hb, hon⟩ := Region.waitsFor_spec (show Region.waitsFor md ops j i = true from h)
    rw [← hon]; exact hp oj hoj e he hb
  | n + 1, j, i, hp, h => by
    unfold Region.waitsT at h
    rw [Bool.or_eq_true] at h
    rcases h with h | h
    · obtain ⟨oj, hoj, e, he, hb, hon⟩ := Region.waitsFor_spec h
      rw [← hon]; exact hp oj hoj e he hb
    · cases ho : ops[j]? with
      | none => rw [ho] at h; cases h
      | some oj =>
        rw [ho] at h
        obtain ⟨k, hk, h2⟩ := Array.any_eq_true.1 h
        rw [Bool.and_eq_true] at h2
        have hm : oj.after[k] ∈ oj.after := Array.getElem_mem hk
        exact Region.waitsT_spec hD n _ i (hD _ (hp oj ho _ hm h2.1)) h2.2
theorem getD_setT {s : Array Bool} {j x : Nat} (h : s.getD x false = true) : (s.setIfInBounds j true).getD x false = true := by
  by_cases e : j = x
  · subst e
    have : j < s.size := by
      rcases Nat.lt_or_ge j s.size with h' | h'
      · exact h'
      · rw [Array.getD_eq_getD_getElem?, Array.getElem?_eq_none h'] at h; cases h
    rw [Array.getD_eq_getD_getElem?, Array.getElem?_setIfInBounds_self_of_lt this]; rfl
  · rw [getD_set_ne false e]; exact h
theorem Region.Down.set {s : Array Bool} (hD : Region.Down md ops s) {j : Nat} (hp : Region.Pre md ops s j) : Region.Down md ops (s.setIfInBounds j true) := fun k hk oj hoj e he hb => by
  by_cases hjk : j = k
  · subst hjk; exact getD_setT (hp oj hoj e he hb)
  · rw [getD_set_ne false hjk] at hk
    exact getD_setT (hD k hk oj hoj e he hb)
theorem Region.Pre.of_ready {s : Array Bool} {j : Nat} (h : j ∈ Region.ready md ops s) : Region.Pre md ops s j := fun oj hoj e he hb => by
  obtain ⟨_, oj', hoj', hall⟩ := mem_ready.1 h
  rw [hoj] at hoj'; injection hoj' with hoj'; subst hoj'
  exact hall e he hb
theorem Region.Down.none (n : Nat) : Region.Down md ops (Array.replicate n false) := fun k hk => by
  rw [Array.getD_eq_getD_getElem?, Array.getElem?_replicate] at hk
  split at hk <;> cases hk
theorem wpAnyC_firstT {i : Nat} {oi : Oper} {v : Value} (hi : ops[i]? = some oi) (hns : Region.noSelect ops = true)
    (hQ : ∀ c a a' w, a'.defers = a.defers → Q (.panic c) a' w → Q (.panic c) a w) (hZ : ∀ z ∈ Z, Region.waitsT md ops 3 z i = true) :
    ∀ (fuel : Nat) (s : Array Bool) (a : Act) (w : World), Region.Down md ops s →
      (∀ j oj, ops[j]? = some oj → j ≠ i → s.getD j true = false → (∀ e ∈ oj.after, Region.binds md e = true → e.on ≠ i) → oi.apart ops oj = true) →
      i ∈ Region.ready md ops s → YieldsC P ops C oi v a → C w →
      wpAnyC P md ops C Z Q fuel (s.setIfInBounds i true) (a.put oi.dst v) w → wpAnyC P md ops C Z Q (fuel + 1) s a w := by
  have sel := fun (j : Nat) (o : Oper) cs b => Region.noSelect_spec hns j o cs b
  intro fuel
  induction fuel with
  | zero =>
    intro s a w _ _ hr hy hC H
    refine ⟨fun h => (by rw [h] at hr; cases hr), fun j hj => ?_⟩
    by_cases hji : j = i
    · subst hji; exact hy.wpOp hi hC ⟨.inr hC, H⟩
    · have := ready_mono hj hji
      rw [H.1] at this
      cases this
  | succ fuel ih =>
    intro s a w hD hfree hr hy hC H
    refine ⟨fun h => (by rw [h] at hr; cases hr), fun j hj => ?_⟩
    by_cases hji : j = i
    · subst hji; exact hy.wpOp hi hC ⟨.inr hC, H⟩
    · have h1 := H.2 j (ready_mono hj hji)
      obtain ⟨hjun, oj, hoj, hall⟩ := mem_ready.1 hj
      have hiun := (mem_ready.1 hr).1
      have hin : s.getD i false ≠ true := fun h2 => by
        rw [getD_both hiun] at h2
        cases h2
      have hnot : ∀ e ∈ oj.after, Region.binds md e = true → e.on ≠ i := fun e he hb heq => by
        have h2 := hall e he hb
        rw [heq] at h2
        exact hin h2
      have hjZ : j ∉ Z := fun hz => hin (Region.waitsT_spec hD 3 j i (Region.Pre.of_ready hj) (hZ j hz))
      have h2 := wpOp_putC hoj (hfree j oj hoj hji hjun hnot) (fun cs b => sel i oi cs b hi) (fun cs b => sel j oj cs b hoj) hQ hy h1
      have hfree' : ∀ k ok, ops[k]? = some ok → k ≠ i → (s.setIfInBounds j true).getD k true = false →
          (∀ e ∈ ok.after, Region.binds md e = true → e.on ≠ i) → oi.apart ops ok = true := fun k ok hk hki hun hno => by
        refine hfree k ok hk hki ?_ hno
        by_cases hjk : j = k
        · subst hjk; exact hjun
        · rw [getD_set_ne true hjk] at hun; exact hun
      refine wpOp_mono (fun a' w' h3 => ?_) h2
      have hC' : C w' := h3.2.1.resolve_left hjZ
      refine ⟨.inr hC', ih (s.setIfInBounds j true) a' w' (hD.set (Region.Pre.of_ready hj)) hfree' (ready_mono hr (Ne.symm hji)) h3.1 hC' ?_⟩
      rw [Array.setIfInBounds_comm _ _ hji]
      exact h3.2.2
def Region.treeT (md : Region.Mode) (ops : Array Oper) (Z : List Nat) : PlanT → Bool → Nat → Array Bool → Bool
  | .done, _, n, s => decide (n = 0) && (Region.ready md ops s).isEmpty
  | .take i r, _, n, s => match n with
    | 0 => false
    | n + 1 => (Region.ready md ops s).contains i && Region.free md ops s i && (Z.all fun z => Region.waitsT md ops 3 z i) && Region.treeT md ops Z r true n (s.setIfInBounds i true)
  | .opt i r m, first, n, s => match n with
    | 0 => false
    | n + 1 => (!first || decide (Region.ready md ops s = i :: m.heads)) && Region.treeT md ops Z r true n (s.setIfInBounds i true) && Region.treeT md ops Z m false (n + 1) s
  | .no, first, _, _ => !first
theorem anyC_of_treeT (hns : Region.noSelect ops = true) (hQ : ∀ c a a' w, a'.defers = a.defers → Q (.panic c) a' w → Q (.panic c) a w) :
    ∀ (t : PlanT) (c : Bool) (n : Nat) (s : Array Bool) (a : Act) (w : World), Region.Down md ops s → Region.treeZ Z t c = true → (c = true → C w) → wpTree P ops C Z Q t a w →
      (Region.treeT md ops Z t true n s = true → wpAnyC P md ops C Z Q n s a w) ∧
      (∀ m, n = m + 1 → Region.treeT md ops Z t false n s = true → (∀ i ∈ t.heads, i ∈ Region.ready md ops s) → ∀ i ∈ t.heads, wpOp P ops Q i (fun a' w' => (i ∈ Z ∨ C w') ∧ wpAnyC P md ops C Z Q m (s.setIfInBounds i true) a' w') a w) := by
  intro t
  induction t with
  | done =>
    intro c n s a w _ _ _ h
    refine ⟨fun hB => ?_, fun m _ _ _ i hi => by cases hi⟩
    simp only [Region.treeT, Bool.and_eq_true, decide_eq_true_eq] at hB
    obtain ⟨rfl, hB⟩ := hB
    exact ⟨by simpa using hB, h⟩
  | no =>
    intro c n s a w _ _ _ _
    exact ⟨fun hB => by simp [Region.treeT] at hB, fun m _ _ _ i hi => by cases hi⟩
  | take i r ih =>
    intro c n s a w hD hz hC h
    refine ⟨fun hB => ?_, fun m _ _ _ i hi => by cases hi⟩
    cases n with
    | zero => simp [Region.treeT] at hB
    | succ n =>
      simp only [Region.treeT, Bool.and_eq_true] at hB
      simp only [Region.treeZ, Bool.and_eq_true] at hz
      obtain ⟨⟨⟨h1, h2⟩, h3⟩, h4⟩ := hB
      have hr : i ∈ Region.ready md ops s := by simpa using h1
      obtain ⟨_, oi, hoi, _⟩ := mem_ready.1 hr
      simp only [wpTree, hoi] at h
      obtain ⟨v, hy, hn⟩ := h
      exact wpAnyC_firstT hoi hns hQ (fun z hz => List.all_eq_true.1 h3 z hz) n s a w hD (Region.free_spec hoi h2) hr hy (hC hz.1) ((ih c n _ _ _ (hD.set (Region.Pre.of_ready hr)) hz.2 hC (hn (hC hz.1))).1 h4)
  | opt i r m ihr ihm =>
    intro c n s a w hD hz hC h
    simp only [Region.treeZ, Bool.and_eq_true] at hz
    obtain ⟨h1, h2⟩ := h
    have key : ∀ k first, n = k + 1 → Region.treeT md ops Z (.opt i r m) first n s = true → (∀ j ∈ (PlanT.opt i r m).heads, j ∈ Region.ready md ops s) → ∀ j ∈ (PlanT.opt i r m).heads, wpOp P ops Q j (fun a' w' => (j ∈ Z ∨ C w') ∧ wpAnyC P md ops C Z Q k (s.setIfInBounds j true) a' w') a w := by
      intro k first hn hB hrd j hj
      subst hn
      simp only [Region.treeT, Bool.and_eq_true] at hB
      obtain ⟨⟨_, hr⟩, hm⟩ := hB
      have hrj := hrd j hj
      simp only [PlanT.heads, List.mem_cons] at hj
      rcases hj with rfl | hj
      · refine wpOp_mono (fun a' w' h' => ⟨h'.1, (ihr (c && !Z.contains j) k _ a' w' (hD.set (Region.Pre.of_ready hrj)) hz.1 (fun hc => ?_) h'.2).1 hr⟩) h1
        simp only [Bool.and_eq_true, Bool.not_eq_true'] at hc
        refine h'.1.resolve_left fun hmm => ?_
        rw [List.contains_iff_mem.2 hmm] at hc
        cases hc.2
      · exact (ihm c (k + 1) s a w hD hz.2 hC h2).2 k rfl hm (fun x hx => hrd x (by simp only [PlanT.heads, List.mem_cons]; exact .inr hx)) j hj
    refine ⟨fun hB => ?_, fun k hk hB hrd => key k false hk hB hrd⟩
    cases n with
    | zero => simp [Region.treeT] at hB
    | succ n =>
      have hk := key n true rfl hB
      simp only [Region.treeT, Bool.and_eq_true, Bool.not_true, Bool.false_or, decide_eq_true_eq] at hB
      have hrd : ∀ j ∈ (PlanT.opt i r m).heads, j ∈ Region.ready md ops s := fun j hj => by rw [hB.1.1]; exact hj
      refine ⟨fun h0 => (by rw [hB.1.1] at h0; cases h0), fun j hj => ?_⟩
      rw [hB.1.1] at hj
      exact hk hrd j hj
/-- **THE REGION, BY A PLAN THAT BRANCHES; what stands in Z may wait for what is taken first through others.** -/
theorem wp_region_treeT {id : Nat} {a : Act} {w : World} {l : List Oper} {Q : Exit → Act → World → Prop} (C : World → Prop) (Z : List Nat) (t : PlanT) (hm : P.follows .mixedOrders = true)
    (hB : (Region.noSelect l.toArray && Region.treeT .any l.toArray Z t true l.toArray.size (Array.replicate l.toArray.size false) && Region.treeZ Z t true) = true)
    (hC : C w.drew) (h : wpTree P l.toArray C Z (tidy Q) t a w.drew) : (Code.region id l.toArray true).wp P Q a w := by
  simp only [Bool.and_eq_true] at hB
  refine wp_mono (Q := tidy Q) ?_ (tidy_le Q)
  refine wp_region_any hm ?_
  exact wpAny_of_C _ _ _ _ ((anyC_of_treeT hB.1.1 (fun _ _ _ _ _ q => q.elim) t true _ _ a w.drew (Region.Down.none _) hB.2 (fun _ => hC) h).1 hB.1.2)
end
end Go
