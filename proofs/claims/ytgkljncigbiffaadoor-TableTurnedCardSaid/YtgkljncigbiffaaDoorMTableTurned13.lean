/- A pair is added to the bodies and keys of data blocks: pack's inner function. Conditions: as each says. -/
import Derived.Test.YtgkljncigbiffaaDoorMTableTurned12
namespace Go.Proofs.YtgkljncigbiffaaDoor
open Go.RowKit
/-- Where the bodies and the keys are, in boxes. -/
def PackSt (N : Nat → Prop) (w : World) (base b5 b6 : Nat) (G : List (List PairT)) : Prop := ∃ (vb vk : Value) (bs sp ks sk : List Value), Blk w b5 83 #[vb] ∧ Blk w b6 83 #[vk] ∧ BodsAt w base vb G bs sp ∧ KeysN N w base vk G ks sk ∧ ∀ x, vb.ownBlock = some x → vk.ownBlock ≠ some x
/-- While the two lists grow, in whatever order. -/
def AddR (W0 : World) (base n : Nat) (vb u : Value) (bs sp : List Value) (key : Value) (a0 : Act) (i j : Nat) (a : Act) (w : World) : Prop :=
  ∃ x y z : Value, a = ((a0.put (some 26) x).put (some 27) y).put (some 31) z ∧ Near vb.ownBlock.toList W0 w ∧
    (i = 0 → OwnsC 22 1 w base vb n bs sp) ∧
    (i = 1 → OwnsC 22 1 w base vb n bs sp ∧ ∃ g, x = .slice (some ⟨g, 0, none⟩) 1 1 ∧ Reads w (some ⟨g, 0, none⟩) [u]) ∧
    (i = 2 → ∃ sp', OwnsC 22 1 w base y (n + 1) (bs ++ [u]) sp' ∧ ∀ g, y.ownBlock = some g → vb.ownBlock = some g ∨ W0.heap.size ≤ g) ∧
    (j = 1 → ∃ g, z = .slice (some ⟨g, 0, none⟩) 1 1 ∧ W0.heap.size ≤ g ∧ g < w.heap.size ∧ (∀ g', y.ownBlock = some g' → i = 2 → g' ≠ g) ∧ Reads w (some ⟨g, 0, none⟩) [key])
theorem reads_near {w w' : World} {X : List Nat} {g : Nat} {xs : List Value} (h : Reads w (some ⟨g, 0, none⟩) xs) (k : Near X w w') (hg : g ∉ X) : Reads w' (some ⟨g, 0, none⟩) xs := fun hne => by
  obtain ⟨b, off, e, hc⟩ := h hne
  injection e with e
  injection e with e1 e2
  subst e1 e2
  exact ⟨g, 0, rfl, fun j v hv => by
    have h1 := hc j v hv
    exact (k.cell (p := ⟨g, 0 + j, none⟩) (World.block_lt_of_cell? w _ h1) hg).trans h1⟩
theorem infoSl : (Tryd.prog.info? 22).map (fun i => (i.zero, i.size, i.bytes)) = some (some (.slice none 0 0), 1, 24) := by kernel_rfl
theorem near_set {X : List Nat} {w w' : World} (h : Near X w w') {g : Nat} (hg : g ∈ X) (i : Nat) (v : Value) : Near X w (w'.setCell ⟨g, i, none⟩ v) := h.trans (Near.upd ((Upd.refl g w').set i v) hg)
/-- A new body and a new key are there. -/
theorem pack_new {N : Nat → Prop} {w W0 w' W6 : World} {base b5 b6 : Nat} {G : List (List PairT)} {p : PairT} {vb vk v2 v6 u x5 x6 : Value} {bs sp ks sk sp2 sp6 : List Value} {s8 : List UInt8} {A : Option Addr} {c : Nat}
    (hG : BodsAt W0 base vb G bs sp) (hK : KeysN N w' base vk G ks sk) (hu : OwnB 5 W0 base u (pbytes p) s8) (hfresh : ∀ (i : Nat) (b : Value) (x : Nat), bs[i]? = some b → b.ownBlock = some x → u.ownBlock ≠ some x)
    (hN : Near vb.ownBlock.toList W0 w') (ho2 : OwnsC 22 1 w' base v2 (G.length + 1) (bs ++ [u]) sp2) (hy2 : ∀ g, v2.ownBlock = some g → vb.ownBlock = some g ∨ W0.heap.size ≤ g)
    (hg6 : Near vk.ownBlock.toList w' W6) (ho6 : OwnsC 22 1 W6 base v6 (G.length + 1) (ks ++ [.slice A p.1.length c]) sp6) (hv6 : v6.ownBlock = vk.ownBlock ∨ v6.ownBlock = some w'.heap.size)
    (q5 : Blk W6 b5 83 #[x5]) (q6 : Blk W6 b6 83 #[x6]) (hne : b5 ≠ b6) (hvv : ∀ x, vb.ownBlock = some x → vk.ownBlock ≠ some x) (hkl : ∀ x, vk.ownBlock = some x → x < W0.heap.size)
    (h1 : p.1.length ≤ c) (h2 : c ≤ 9223372036854775807) (hp : Bytes w' A p.1) (hA : ∀ ad, A = some ad → ad.block < base ∧ N ad.block) (h5 : base ≤ b5) (h6 : base ≤ b6) (hbw : Below base w W0) (hb : base ≤ w.heap.size) :
    PackSt N ((W6.setCell ⟨b5, 0, none⟩ v2).setCell ⟨b6, 0, none⟩ v6) base b5 b6 (G ++ [[p]]) ∧ Below base w ((W6.setCell ⟨b5, 0, none⟩ v2).setCell ⟨b6, 0, none⟩ v6) := by
  have hB2 := hG.add hu hfresh hN ho2
  have hK2 := hK.add h1 h2 hp hA hg6 ho6
  have hX : Near [b5, b6] W6 ((W6.setCell ⟨b5, 0, none⟩ v2).setCell ⟨b6, 0, none⟩ v6) := near_set (near_set (Near.refl _ W6) (by simp) 0 v2) (by simp) 0 v6
  have off : ∀ x, (∃ cs t, t ≠ 83 ∧ Blk W6 x t cs) → x ∉ [b5, b6] := fun x ⟨cs, t, ht, hbk⟩ hm => by
    rcases List.mem_cons.1 hm with e | e
    · subst e; exact hbk.apart q5 ht rfl
    · rw [List.mem_singleton] at e; subst e; exact hbk.apart q6 ht rfl
  have hvlow : ∀ x ∈ vb.ownBlock.toList, base ≤ x := fun x hx => (OwnsC.lt hG.own x (Option.mem_toList.1 hx)).1
  have hklow : ∀ x ∈ vk.ownBlock.toList, base ≤ x := fun x hx => (OwnsC.lt hK.own x (Option.mem_toList.1 hx)).1
  have h2k : ∀ x, v2.ownBlock = some x → vk.ownBlock ≠ some x := fun x hx e => by
    rcases hy2 x hx with h | h
    · exact hvv x h e
    · have := hkl x e; omega
  have hB3 : BodsAt W6 base v2 (G ++ [[p]]) (bs ++ [u]) sp2 := hB2.near hg6 (fun x hx hm => h2k x hx (Option.mem_toList.1 hm)) (fun i b x hb hx hm => by
    obtain ⟨cs, hbk⟩ := hB2.u8 hb hx
    obtain ⟨cs', hbk'⟩ := ownBlk hK.own (Option.mem_toList.1 hm)
    exact hbk.apart hbk' (by decide) rfl)
  refine ⟨⟨v2, v6, bs ++ [u], sp2, ks ++ [.slice A p.1.length c], sp6, (q5.set_ 0 v2).off hne v6, (q6.off (fun e => hne e.symm) v2).set_ 0 v6, ?_, ?_, ?_⟩, ?_⟩
  · refine hB3.near hX (fun x hx => ?_) (fun i b x hb hx => ?_)
    · obtain ⟨cs, hbk⟩ := ownBlk hB3.own hx
      exact off x ⟨cs, _, by decide, hbk⟩
    · obtain ⟨cs, hbk⟩ := hB3.u8 hb hx
      exact off x ⟨cs, _, by decide, hbk⟩
  · refine hK2.near hX (fun x hx => ?_) (fun x hx => ?_)
    · obtain ⟨cs, hbk⟩ := ownBlk hK2.own hx
      exact off x ⟨cs, _, by decide, hbk⟩
    · rcases List.mem_cons.1 hx with e | e
      · omega
      · rw [List.mem_singleton] at e; omega
  · intro x hx e
    rcases hv6 with h | h
    · exact h2k x hx (h ▸ e)
    · rw [h] at e; injection e with e
      have := (OwnsC.lt ho2 x hx).2
      omega
  · have hs := hbw.size
    have k1 := hbw.trans (hN.toBelow hvlow (by omega))
    have k2 := k1.trans (hg6.toBelow hklow (by have := k1.size; omega))
    exact k2.trans (hX.toBelow (fun x hx => by
      rcases List.mem_cons.1 hx with e | e
      · omega
      · rw [List.mem_singleton] at e; omega) (by have := k2.size; omega))
/-- The last body has grown; the keys are as they were. -/
theorem pack_more {N : Nat → Prop} {w W0 W5 : World} {base b5 b6 gb : Nat} {G : List (List PairT)} {g : List PairT} {p : PairT} {vb vk um u' : Value} {bs sp ks sk : List Value} {s8 : List UInt8}
    (hG : BodsAt W0 base vb (G ++ [g]) bs sp) (hu : bs[G.length]? = some um) (hu' : OwnB 5 W5 base u' (gbody g ++ pbytes p) s8) (hnew : u'.ownBlock = um.ownBlock ∨ u'.ownBlock = some W0.heap.size) (hN : Near um.ownBlock.toList W0 W5) (hv : vb.ownBlock = some gb)
    (hK : KeysN N W0 base vk (G ++ [g]) ks sk) (hg : g ≠ []) (q5 : Blk W5 b5 83 #[vb]) (q6 : Blk W5 b6 83 #[vk]) (hvv : ∀ x, vb.ownBlock = some x → vk.ownBlock ≠ some x) (hbw : Below base w W0) (hb : base ≤ w.heap.size) :
    PackSt N (W5.setCell ⟨gb, G.length, none⟩ u') base b5 b6 (G ++ [g ++ [p]]) ∧ Below base w (W5.setCell ⟨gb, G.length, none⟩ u') := by
  have hB := hG.more hu hu' hnew hN hv
  obtain ⟨csv, hvb⟩ := ownBlk hG.own hv
  have hul : ∀ x ∈ um.ownBlock.toList, base ≤ x ∧ ∃ cs, Blk W0 x 5 cs := fun x hx => by
    obtain ⟨u2, s2, e1, e2⟩ := hG.each G.length g (by rw [List.getElem?_append_right (Nat.le_refl _), Nat.sub_self]; rfl)
    rw [hu] at e1; injection e1 with e1; subst e1
    exact ⟨(OwnsC.lt e2 x (Option.mem_toList.1 hx)).1, ownBlk e2 (Option.mem_toList.1 hx)⟩
  have hgb : base ≤ gb := (OwnsC.lt hG.own gb hv).1
  have hgu : gb ∉ um.ownBlock.toList := fun hm => by
    obtain ⟨-, cs, hbk⟩ := hul gb hm
    exact hbk.apart hvb (by decide) rfl
  have qg := hvb.near hN hgu
  have hK2 : KeysN N (W5.setCell ⟨gb, G.length, none⟩ u') base vk (G ++ [g]) ks sk := by
    refine (hK.near hN (fun x hx hm => ?_) (fun x hx => (hul x hx).1)).near (near_set (X := [gb]) (Near.refl _ W5) (by simp) _ _) (fun x hx hm => ?_) (fun x hx => by rw [List.mem_singleton.1 hx]; exact hgb)
    · obtain ⟨cs, hbk⟩ := ownBlk hK.own hx
      obtain ⟨-, cs', hbk'⟩ := hul x hm
      exact hbk.apart hbk' (by decide) rfl
    · rw [List.mem_singleton.1 hm] at hx
      exact hvv gb hv hx
  refine ⟨⟨vb, vk, _, sp, ks, sk, q5.off (fun e => by subst e; exact q5.apart qg (by decide) rfl) u', q6.off (fun e => by subst e; exact q6.apart qg (by decide) rfl) u', hB, ⟨by have := hK2.own; rw [List.length_append, List.length_singleton] at this ⊢; exact this, fun i k hk => ?_⟩, hvv⟩, ?_⟩
  · rw [List.getElem?_append] at hk
    split at hk
    · rename_i hlt
      exact hK2.each i k (by rw [List.getElem?_append_left hlt]; exact hk)
    · have : i = G.length := by
        have := (List.getElem?_eq_some_iff.1 hk).1
        simp only [List.length_singleton] at this; omega
      subst this
      rw [Nat.sub_self] at hk
      injection hk with hk
      subst hk
      have e : gkey (g ++ [p]) = gkey g := by
        cases g with
        | nil => exact absurd rfl hg
        | cons a l => rfl
      rw [e]
      exact hK2.each G.length g (by rw [List.getElem?_append_right (Nat.le_refl _), Nat.sub_self]; rfl)
  · have hs := hbw.size
    have k1 := hbw.trans (hN.toBelow (fun x hx => (hul x hx).1) (by omega))
    exact k1.trans ((near_set (X := [gb]) (Near.refl _ W5) (by simp) _ _).toBelow (fun x hx => by rw [List.mem_singleton.1 hx]; exact hgb) (by have := k1.size; omega))
theorem own_head {e : TypeId} {size base n c : Nat} {w : World} {A : Option Addr} {xs sp : List Value} (h : OwnsC e size w base (.slice A n c) n xs sp) (hn : 0 < n) : ∃ g, A = some ⟨g, 0, none⟩ := by
  rcases h with ⟨_, h0, _⟩ | ⟨g, cap, hv, _⟩
  · omega
  · injection hv with h1 h2 h3
    exact ⟨g, h1⟩
theorem padd_last {G : List (List PairT)} {g : List PairT} {p : PairT} (h : G.getLast? = some g) : padd G p = if 860 < (gbody g).length + (pbytes p).length then G ++ [[p]] else G.dropLast ++ [g ++ [p]] := by
  unfold padd; rw [h]
set_option maxRecDepth 100000 in
set_option maxHeartbeats 4000000 in
theorem padd_any {N : Nat → Prop} (base b5 b6 : Nat) (G : List (List PairT)) (p : PairT) (A B : Option Addr) (c e : Nat) (w : World) (hok : pok p = true) (hp : PairAt w p A c B e) (hA : ∀ ad, A = some ad → ad.block < base ∧ N ad.block) (hne : b5 ≠ b6) (h5 : base ≤ b5) (h6 : base ≤ b6)
    (hlen : G.length ≤ 1000) (hgr : GrOk G G.flatten) (hS : PackSt N w base b5 b6 G) (hbs : base ≤ w.heap.size) :
    Calls Tryd.prog 96 #[.agg (pairc p A c B e), .pointer (some ⟨b5, 0, none⟩), .pointer (some ⟨b6, 0, none⟩)] w fun x w' => x = .returned (.tuple #[]) ∧ PackSt N w' base b5 b6 (padd G p) ∧ Below base w w' := by
  obtain ⟨vb, vk, bs, sp, ks, sk, hb5, hb6, hG, hK, hvv⟩ := hS
  have hB0 := (Below.refl w.heap.size w).alloc (Nat.le_refl _) (.cells (pairc p A c B e) 40)
  have hg1 := Blk.new w 40 (pairc p A c B e)
  have hbo := bytesOf_any p A B c e _ hok (hp.below hB0)
  have H0 := Lib.hid (And.intro hB0 (And.intro hg1 (And.intro hp (And.intro (hb5.below hB0 hb5.lt) (And.intro (hb6.below hB0 hb6.lt) (And.intro (hG.below hB0) (hK.below hB0)))))))
  have HA := Lib.hid (And.intro hA (And.intro hne (And.intro h5 (And.intro h6 (And.intro hlen (And.intro hgr (And.intro hbs (And.intro hok hvv))))))))
  clear hB0 hp hb5 hb6 hG hK hA hne h5 h6 hlen hgr hbs hok hvv
  go_enter Tryd.func96, Tryd.ntmps96
  unfold pairc at hg1 hbo H0 ⊢
  go_wp2_with (first
    | ((with_reducible show wpList _ _ _ ((⟨some 6, _, _, _, _, _⟩ : Oper) :: _) _ _); refine wpList_load_blk (o := ⟨some 6, _, _, _, _, _⟩) (hg1) (by rfl) _ _ (by rfl) (by rfl) _ Tryd.underlying40 (by rfl) (sizePair) (by rfl) ?_)
    | fail)
  refine hbo.mono ?_
  rintro z w1 ⟨u, s8, rfl, hu, hbx⟩
  have hb1 := H0.out.1.trans (hbx.mono H0.out.1.size)
  have k5 := H0.out.2.2.2.1.below hbx H0.out.2.2.2.1.lt
  have k6 := H0.out.2.2.2.2.1.below hbx H0.out.2.2.2.2.1.lt
  have kp := H0.out.2.1.below hbx H0.out.2.1.lt
  have kG := H0.out.2.2.2.2.2.1.below hbx
  have kK := H0.out.2.2.2.2.2.2.below hbx
  have kb := H0.out.2.2.1.below hb1
  have hfresh : ∀ (i : Nat) (b : Value) (x : Nat), bs[i]? = some b → b.ownBlock = some x → u.ownBlock ≠ some x := fun i b x hb hx hux => by
    obtain ⟨cs, hbk⟩ := H0.out.2.2.2.2.2.1.u8 hb hx
    have h1 := hbk.lt
    have h2 := (OwnsC.lt hu x hux).1
    omega
  obtain ⟨Au, cu, hue, hcu, hcm, -⟩ := OwnB.open_ hu
  have H1 := Lib.hid (And.intro hb1 (And.intro k5 (And.intro k6 (And.intro kp (And.intro kG (And.intro kK (And.intro kb (And.intro hu hfresh))))))))
  have hlu : (pbytes p).length ≤ 162 := (pok_length HA.out.2.2.2.2.2.2.2.1).2
  obtain ⟨lu, hlu2⟩ : ∃ m, m = (pbytes p).length := ⟨_, rfl⟩
  rw [← hlu2] at hue hlu
  have HU := Lib.hid (And.intro hlu2 hlu)
  have d1 := k5.at_ 0 (v := vb) rfl
  have d2 := k6.at_ 0 (v := vk) rfl
  have d3 := kp.at_ 0 (v := .slice A p.1.length c) rfl
  clear hbx hb1 k5 k6 kp kG kK kb hu hfresh hbo hg1 hcu hcm hlu2
  subst hue
  obtain ⟨Ab, cb, hvb, -, -, hrb, -⟩ := OwnsC.reads H1.out.2.2.2.2.1.own
  obtain ⟨Ak, ck, hvk, -, -, -, -⟩ := OwnsC.reads H1.out.2.2.2.2.2.1.own
  have HV := Lib.hid (And.intro hvb hvk)
  subst hvb hvk
  obtain ⟨n, hn⟩ : ∃ n, n = G.length := ⟨_, rfl⟩
  rw [← hn] at d1 d2
  have HN := Lib.hid hn
  -- R4 (printed by gen/tbi.py)
  by_cases hn0 : n = 0
  · have hpad : padd G p = G ++ [[p]] := by
      have : G = [] := List.eq_nil_of_length_eq_zero (by omega)
      subst this; rfl
    have HPD := Lib.hid hpad
    have hnz := hn0
    have kn : decide ((n : Int) - 1 < 0) = true := decide_eq_true (by omega)
    have kw : wrap64 ((n : Int) - 1) = (n : Int) - 1 := w64_in (by omega)
    clear hpad hn0 hrb hnz hn
    go_wp2_with fail
    have hw0 : Below w1.heap.size w1 w1.drew := (Below.refl _ _).drew
    have hc0 : w1.drew.cell? ⟨b5, 0, none⟩ = some (.slice Ab n cb) ∧ w1.drew.cell? ⟨b6, 0, none⟩ = some (.slice Ak n ck) ∧ w1.drew.cell? ⟨w.heap.size, 0, none⟩ = some (.slice A p.1.length c) := ⟨d1, d2, d3⟩
    refine wp_region_treeT (fun w' => w'.cell? ⟨b5, 0, none⟩ = some (.slice Ab n cb) ∧ w'.cell? ⟨b6, 0, none⟩ = some (.slice Ak n ck) ∧ w'.cell? ⟨w.heap.size, 0, none⟩ = some (.slice A p.1.length c)) [9, 10] (PlanT.takes [1, 5] (PlanT.takes [0, 4, 6] (PlanT.chains (.opt 8 (.opt 9 (.opt 10 .done .no) .no) .no) [2, 3] [7]))) (by kernel_rfl) (by kernel_rfl) hc0 ?_
    refine wpTree_pure _ _ _ (by rfl) (by rfl) ?_
    dsimp only [List.filterMap, List.getElem?_cons_zero, List.getElem?_cons_succ]
    repeat (go_big_quiet_step (fail))
    refine wpQuiet_nil ?_
    refine wpTree_takeL _ _ _ (by rfl) (by rfl) (hc0) ?_
    dsimp only [List.filterMap, List.getElem?_cons_zero, List.getElem?_cons_succ]
    (refine wpQuiet_load_cell (fun w' hw' => hw'.1) (by rfl) _ _ (by rfl) (by rfl) _ Tryd.underlying83 (by rfl) ?_; simp only [Act.put, List.setIfInBounds_toArray, List.set_cons_zero, List.set_cons_succ])
    (refine wpQuiet_load_cell (fun w' hw' => hw'.2.1) (by rfl) _ _ (by rfl) (by rfl) _ Tryd.underlying83 (by rfl) ?_; simp only [Act.put, List.setIfInBounds_toArray, List.set_cons_zero, List.set_cons_succ])
    (refine wpQuiet_load_cell (fun w' hw' => hw'.2.2) (by rfl) _ _ (by rfl) (by rfl) _ Tryd.underlying22 (by rfl) ?_; simp only [Act.put, List.setIfInBounds_toArray, List.set_cons_zero, List.set_cons_succ])
    refine wpQuiet_nil ?_
    have hoff : ∀ x, (∃ cs t, t ≠ 22 ∧ Blk w1 x t cs) → x ∉ (Value.slice Ab G.length cb).ownBlock.toList := fun x ⟨cs, t, ht, hb⟩ hm => by
      obtain ⟨cs', hb'⟩ := ownBlk H1.out.2.2.2.2.1.own (Option.mem_toList.1 hm)
      exact hb.apart hb' ht rfl
    have HO := Lib.hid hoff
    clear hoff hc0
    refine wpTree_rows _ [2, 3] [7] (AddR w1.drew base n (.slice Ab n cb) (.slice Au lu cu) bs sp (.slice A p.1.length c)) _ _ ?r0 ?r1 ?r2 ?rC ?rE
    case r0 => exact ⟨undef, undef, undef, rfl, Near.refl _ _, fun _ => by rw [HN.out]; exact OwnsC.ownBelow H1.out.2.2.2.2.1.own hw0, fun h => absurd h (by decide), fun h => absurd h (by decide), fun h => absurd h (by decide)⟩
    case rC =>
      rintro i j a' w' ⟨x, y, z, -, hN, -⟩
      rw [HN.out] at hN d1 d2 ⊢
      exact ⟨(hN.cell (p := ⟨b5, 0, none⟩) H1.out.2.1.lt (HO.out b5 ⟨_, _, by decide, H1.out.2.1⟩)).trans d1, (hN.cell (p := ⟨b6, 0, none⟩) H1.out.2.2.1.lt (HO.out b6 ⟨_, _, by decide, H1.out.2.2.1⟩)).trans d2, (hN.cell (p := ⟨w.heap.size, 0, none⟩) H1.out.2.2.2.1.lt (HO.out _ ⟨_, _, by decide, H1.out.2.2.2.1⟩)).trans d3⟩
    case r1 =>
      rintro i j a' w' hi hj ⟨x, y, z, rfl, hN, h0, h1, h2, h3⟩
      have hi' : i = 0 ∨ i = 1 := by have : i < 2 := hi; omega
      rcases hi' with rfl | rfl
      · have ho := h0 rfl
        clear h0 h1 h2
        refine wpOp_of_list _ rfl ?_
        simp only [Act.put, List.setIfInBounds_toArray, List.set_cons_zero, List.set_cons_succ]
        have HX := Lib.hid (And.intro hN (And.intro ho h3))
        clear hN ho h3
        go_wp2_with fail
        have hbl := ((Below.refl w'.heap.size w').alloc (Nat.le_refl _) (.cells #[.slice Au lu cu] 22))
        have hra : Reads (w'.alloc (.cells #[.slice Au lu cu] 22)) (some ⟨w'.heap.size, 0, none⟩) [.slice Au lu cu] := reads_new w' 22 [.slice Au lu cu]
        show AddR _ _ _ _ _ _ _ _ _ _ _ _ _
        refine ⟨.slice (some ⟨w'.heap.size, 0, none⟩) 1 1, y, z, rfl, HX.out.1.trans (Near.below hbl), fun h => absurd h (by decide), fun _ => ⟨OwnsC.ownBelow HX.out.2.1 hbl, _, rfl, hra⟩, fun h => absurd h (by decide), fun hj1 => ?_⟩
        obtain ⟨g, e1, e2, e3, e4, e5⟩ := HX.out.2.2 hj1
        exact ⟨g, e1, e2, Nat.lt_of_lt_of_le e3 hbl.size, fun _ _ h => absurd h (by decide), e5.below hbl⟩
      · obtain ⟨ho, gx, rfl, hrx⟩ := h1 rfl
        clear h0 h1 h2
        refine wpOp_of_list _ rfl ?_
        simp only [Act.put, List.setIfInBounds_toArray, List.set_cons_zero, List.set_cons_succ]
        have HX := Lib.hid (And.intro hN (And.intro ho (And.intro h3 hrx)))
        clear hN ho h3 hrx
        go_wp2_with (first
          | ((with_reducible show wpList _ _ _ ((⟨some 27, _, _, _, _, _⟩ : Oper) :: _) _ _); refine wpList_append_vals (o := ⟨some 27, _, _, _, _, _⟩) (by rfl) _ _ _ (by rfl) base 22 (.slice none 0 0) 1 24 Tryd.underlying83 infoSl (by rfl) (by omega) (.slice Ab n cb) n bs sp (by rfl) HX.out.2.1 (some ⟨gx, 0, none⟩) 1 1 [.slice Au lu cu] (by rfl) (by rfl) HX.out.2.2.2 (by simp [Value.oneCell']) (by have := HA.out.2.2.2.2.1; have := HN.out; simp only [maxLen]; omega) (by have := HA.out.2.2.2.2.1; have := HN.out; omega) (by have := HA.out.2.2.2.2.2.2.1; have := H1.out.1.size; have := HX.out.1.size; exact Nat.le_trans (Nat.le_trans ‹base ≤ w.heap.size› ‹w.heap.size ≤ w1.heap.size›) ‹_›) ?_; intro v' W5 sp5 ho5 hg5 hv5 hn5; refine stopped ?_)
          | fail)
        refine Stopped.mk ?_
        have hvl : ∀ x, (Value.slice Ab n cb).ownBlock = some x → x < w1.drew.heap.size := fun x hx => by rw [HN.out] at hx; exact (OwnsC.lt H1.out.2.2.2.2.1.own x hx).2
        have hs1 := HX.out.1.size
        show AddR _ _ _ _ _ _ _ _ _ _ _ _ _
        refine ⟨_, v', z, rfl, HX.out.1.trans (Near.grown hg5 (fun x hx => Option.mem_toList.2 hx)), fun h => absurd h (by decide), fun h => absurd h (by decide), fun _ => ⟨sp5, ho5, fun g hg => ?_⟩, fun hj1 => ?_⟩
        · rcases hv5 with e | e
          · exact .inl (e ▸ hg)
          · rw [hg] at e; injection e with e; exact .inr (by omega)
        · obtain ⟨g, e1, e2, e3, e4, e5⟩ := HX.out.2.2.1 hj1
          refine ⟨g, e1, e2, Nat.lt_of_lt_of_le e3 hg5.size, fun g' hg' _ => ?_, reads_near e5 (Near.grown hg5 (fun x hx => Option.mem_toList.2 hx)) (fun hm => by have := hvl g (Option.mem_toList.1 hm); omega)⟩
          rcases hv5 with e | e
          · have := hvl g' (e ▸ hg'); omega
          · rw [hg'] at e; injection e with e; omega
    case r2 =>
      rintro i j a' w' hi hj ⟨x, y, z, rfl, hN, h0, h1, h2, h3⟩
      obtain rfl : j = 0 := by have : j < 1 := hj; omega
      refine wpOp_of_list _ rfl ?_
      simp only [Act.put, List.setIfInBounds_toArray, List.set_cons_zero, List.set_cons_succ]
      have HX := Lib.hid (And.intro hN (And.intro h0 (And.intro h1 h2)))
      clear hN h0 h1 h2 h3
      go_wp2_with fail
      have hbl := ((Below.refl w'.heap.size w').alloc (Nat.le_refl _) (.cells #[.slice A p.1.length c] 22))
      have hra : Reads (w'.alloc (.cells #[.slice A p.1.length c] 22)) (some ⟨w'.heap.size, 0, none⟩) [.slice A p.1.length c] := reads_new w' 22 [.slice A p.1.length c]
      show AddR _ _ _ _ _ _ _ _ _ _ _ _ _
      refine ⟨x, y, .slice (some ⟨w'.heap.size, 0, none⟩) 1 1, rfl, HX.out.1.trans (Near.below hbl), fun h => OwnsC.ownBelow (HX.out.2.1 h) hbl, fun h => ?_, fun h => ?_, fun _ => ⟨_, rfl, HX.out.1.size, by simp, fun g hg hi2 => ?_, hra⟩⟩
      · obtain ⟨ho, g, e1, e2⟩ := HX.out.2.2.1 h
        exact ⟨OwnsC.ownBelow ho hbl, g, e1, e2.below hbl⟩
      · obtain ⟨sp', ho, hy⟩ := HX.out.2.2.2 h
        exact ⟨sp', OwnsC.ownBelow ho hbl, hy⟩
      · obtain ⟨sp', ho, hy⟩ := HX.out.2.2.2 hi2
        have := (OwnsC.lt ho g hg).2
        omega
    case rE =>
      rintro a' w' ⟨x, y, z, rfl, hN, -, -, h2, h3⟩
      obtain ⟨sp2, ho2, hy2⟩ := h2 rfl
      obtain ⟨gz, rfl, hz1, hz2, hz3, hrz⟩ := h3 rfl
      simp only [Act.put, List.setIfInBounds_toArray, List.set_cons_zero, List.set_cons_succ]
      have hvl : ∀ x, (Value.slice Ak n ck).ownBlock = some x → x < w1.heap.size := fun x hx => by rw [HN.out] at hx; exact (OwnsC.lt H1.out.2.2.2.2.2.1.own x hx).2
      have hkk : KeysN N w' base (.slice Ak n ck) G ks sk := by
        have := (H1.out.2.2.2.2.2.1.below hw0).near hN (fun x hx hm => by
          have e := Option.mem_toList.1 hm
          rw [HN.out] at e
          exact HA.out.2.2.2.2.2.2.2.2 x e hx) (fun x hx => by
          have e := Option.mem_toList.1 hx
          rw [HN.out] at e
          exact (OwnsC.lt H1.out.2.2.2.2.1.own x e).1)
        rw [← HN.out] at this; exact this
      have hko : OwnsC 22 1 w' base (.slice Ak n ck) n ks sk := by have := hkk.own; rw [← HN.out] at this; exact this
      obtain ⟨Ay, cy, rfl, -, -, -, -⟩ := OwnsC.reads ho2
      have HX := Lib.hid (And.intro hN (And.intro ho2 (And.intro hy2 (And.intro hz1 (And.intro hz2 (And.intro hz3 (And.intro hrz (And.intro hkk hko))))))))
      clear hN ho2 hy2 hz1 hz2 hz3 hrz hkk hko hw0
      refine wpTree_one _ rfl ?_
      go_wp2_with (first
        | ((with_reducible show wpList _ _ _ ((⟨some 32, _, _, _, _, _⟩ : Oper) :: _) _ _); refine wpList_append_vals (o := ⟨some 32, _, _, _, _, _⟩) (by rfl) _ _ _ (by rfl) base 22 (.slice none 0 0) 1 24 Tryd.underlying83 infoSl (by rfl) (by omega) (.slice Ak n ck) n ks sk (by rfl) HX.out.2.2.2.2.2.2.2.2 (some ⟨gz, 0, none⟩) 1 1 [.slice A p.1.length c] (by rfl) (by rfl) HX.out.2.2.2.2.2.2.1 (by simp [Value.oneCell']) (by have := HA.out.2.2.2.2.1; have := HN.out; simp only [maxLen]; omega) (by have := HA.out.2.2.2.2.1; have := HN.out; omega) (by have := HA.out.2.2.2.2.2.2.1; have := H1.out.1.size; have := HX.out.1.size; exact Nat.le_trans (Nat.le_trans ‹base ≤ w.heap.size› ‹w.heap.size ≤ w1.heap.size›) ‹_›) ?_; intro v6 W6 sp6 ho6 hg6 hv6 hn6; refine stopped ?_)
        | fail)
      refine Stopped.mk ?_
      have hNb := HX.out.1
      have hob : ∀ x, (∃ cs t, t ≠ 22 ∧ Blk w1 x t cs) → x ∉ (Value.slice Ab n cb).ownBlock.toList := by rw [HN.out]; exact HO.out
      have hok : ∀ x, (∃ cs t, t ≠ 22 ∧ Blk w1 x t cs) → x ∉ (Value.slice Ak n ck).ownBlock.toList := fun x ⟨cs, t, ht, hb⟩ hm => by
        rw [HN.out] at hm
        obtain ⟨cs', hb'⟩ := ownBlk H1.out.2.2.2.2.2.1.own (Option.mem_toList.1 hm)
        exact hb.apart hb' ht rfl
      have hNk : Near (Value.slice Ak n ck).ownBlock.toList w' W6 := Near.grown hg6 (fun x hx => Option.mem_toList.2 hx)
      have q5 := ((H1.out.2.1.below (Below.refl w1.heap.size w1).drew H1.out.2.1.lt).near hNb (hob b5 ⟨_, _, by decide, H1.out.2.1⟩)).near hNk (hok b5 ⟨_, _, by decide, H1.out.2.1⟩)
      have q6 := ((H1.out.2.2.1.below (Below.refl w1.heap.size w1).drew H1.out.2.2.1.lt).near hNb (hob b6 ⟨_, _, by decide, H1.out.2.2.1⟩)).near hNk (hok b6 ⟨_, _, by decide, H1.out.2.2.1⟩)
      have qp := ((H1.out.2.2.2.1.below (Below.refl w1.heap.size w1).drew H1.out.2.2.2.1.lt).near hNb (hob _ ⟨_, _, by decide, H1.out.2.2.2.1⟩)).near hNk (hok _ ⟨_, _, by decide, H1.out.2.2.2.1⟩)
      rw [← HN.out] at q5 q6
      have hc6 : W6.cell? ⟨b5, 0, none⟩ = some (.slice Ab n cb) ∧ W6.cell? ⟨b6, 0, none⟩ = some (.slice Ak n ck) ∧ W6.cell? ⟨w.heap.size, 0, none⟩ = some (.slice A p.1.length c) := ⟨q5.at_ 0 rfl, q6.at_ 0 rfl, qp.at_ 0 rfl⟩
      obtain ⟨A6, c6, rfl, -, -, -, -⟩ := OwnsC.reads ho6
      have d5 := hc6.1
      have f5 := q5.frozen 0
      have q7 := q6.off (c := b5) (i := 0) (fun e => HA.out.2.1 e.symm) (.slice Ay (n + 1) cy)
      have d6 := q7.at_ 0 (v := .slice Ak n ck) rfl
      have f6 := q7.frozen 0
      have H6 := Lib.hid (And.intro hNk (And.intro q5 (And.intro q6 (And.intro ho6 (And.intro hv6 hg6)))))
      clear hNb hob hok hNk q5 q6 qp ho6 hv6 hg6 hn6 q7 d1 d2 d3
      go_wp2_with fail
      refine TreeQ.in_ hc6 ?_
      clear hc6
      refine wpTree_one _ rfl ?_
      go_wp2_with fail
      refine TreeQ.out (by rfl) ?_
      refine wpTree_one _ rfl ?_
      go_wp2_with fail
      refine TreeQ.out (by rfl) ?_
      refine wpTree_done ?_
      clear d5 f5 d6 f6
      go_wp2_with fail
      refine bodyPost_ret (v := .tuple #[]) (by simp [results]) rfl ?_
      rw [HPD.out]
      have hdr := (Below.refl w1.heap.size w1).drew
      have hb1 : Below base w w1.drew := (H1.out.1.mono HA.out.2.2.2.2.2.2.1).drew
      have hn := HN.out
      subst hn
      exact ⟨rfl, pack_new (H1.out.2.2.2.2.1.below hdr) HX.out.2.2.2.2.2.2.2.1 (OwnsC.base_ (OwnsC.ownBelow H1.out.2.2.2.2.2.2.2.1 hdr) (by have := HA.out.2.2.2.2.2.2.1; have := H0.out.1.size; omega)) H1.out.2.2.2.2.2.2.2.2 HX.out.1 HX.out.2.1 HX.out.2.2.1 H6.out.1 H6.out.2.2.2.1 H6.out.2.2.2.2.1 H6.out.2.1 H6.out.2.2.1 HA.out.2.1 HA.out.2.2.2.2.2.2.2.2 (fun x hx => (OwnsC.lt H1.out.2.2.2.2.2.1.own x hx).2)
        H1.out.2.2.2.2.2.2.1.kc H1.out.2.2.2.2.2.2.1.km (Bytes.near (Bytes.below H1.out.2.2.2.2.2.2.1.k hdr) HX.out.1 (fun ad e hm => by have := (HA.out.1 ad e).1; have := (OwnsC.lt H1.out.2.2.2.2.1.own _ (Option.mem_toList.1 hm)).1; omega)) HA.out.1 HA.out.2.2.1 HA.out.2.2.2.1 hb1 HA.out.2.2.2.2.2.2.1⟩
  obtain ⟨m, hm⟩ : ∃ m, n = m + 1 := ⟨n - 1, by omega⟩
  obtain ⟨g, hg⟩ : ∃ g, G.getLast? = some g := by
    cases h : G.getLast? with
    | none => rw [List.getLast?_eq_none_iff] at h; subst h; simp at hn; omega
    | some g => exact ⟨g, rfl⟩
  have hsp := getLast_split hg
  have hml : G.dropLast.length = m := by rw [List.length_dropLast]; omega
  have hgm : G[m]? = some g := by rw [hsp, List.getElem?_append_right (by omega), hml, Nat.sub_self]; rfl
  obtain ⟨um, sm, hbm, hom⟩ := H1.out.2.2.2.2.1.each m g hgm
  obtain ⟨Am, cm, rfl, -, -, -⟩ := OwnB.open_ hom
  obtain ⟨gb, hgb⟩ := own_head H1.out.2.2.2.2.1.own (by omega : 0 < G.length)
  subst hgb
  obtain ⟨b0, off, hb0, hcb⟩ := hrb (by intro e; rw [e] at hbm; simp at hbm)
  injection hb0 with hb0
  injection hb0 with e1 e2
  subst e1 e2
  have d7 := hcb m _ hbm
  have hpl := padd_last (p := p) hg
  have hg8 : (gbody g).length ≤ 860 := HA.out.2.2.2.2.2.1.small g (List.mem_of_getLast? hg)
  obtain ⟨lm, hlm⟩ : ∃ x, x = (gbody g).length := ⟨_, rfl⟩
  rw [← hlm] at d7 hg8 hpl
  rw [← HU.out.1] at hpl
  have HM := Lib.hid (And.intro hlm (And.intro hsp (And.intro hml (And.intro hbm (And.intro hom hm)))))
  rw [Nat.zero_add] at d7
  have kn : decide ((m : Int) < 0) = false := decide_eq_false (by omega)
  have kw : wrap64 ((n : Int) - 1) = (m : Int) := by rw [w64_in (by have := HA.out.2.2.2.2.1; omega)]; omega
  have ks0 : wrap64 ((lm : Int) + (lu : Int)) = ((lm + lu : Nat) : Int) := by rw [w64_in (by omega)]; omega
  have hm9 : m < n := by omega
  clear hn0 hg hsp hml hgm hbm hom hrb hcb hn hlm hm
  by_cases hbig : 860 < lm + lu
  · rw [if_pos hbig] at hpl
    have HPD := Lib.hid hpl
    have kc : decide (((lm + lu : Nat) : Int) > 860) = true := decide_eq_true (by omega)
    have kc2 : decide (860 < lm + lu) = true := decide_eq_true hbig
    have kc3 : decide ((lm : Int) + (lu : Int) > 860) = true := decide_eq_true (by omega)
    clear hpl hbig
    go_wp2_with fail
    have hw0 : Below w1.heap.size w1 w1.drew := (Below.refl _ _).drew
    have hc0 : w1.drew.cell? ⟨b5, 0, none⟩ = some (.slice (some ⟨gb, 0, none⟩) n cb) ∧ w1.drew.cell? ⟨b6, 0, none⟩ = some (.slice Ak n ck) ∧ w1.drew.cell? ⟨w.heap.size, 0, none⟩ = some (.slice A p.1.length c) := ⟨d1, d2, d3⟩
    refine wp_region_treeT (fun w' => w'.cell? ⟨b5, 0, none⟩ = some (.slice (some ⟨gb, 0, none⟩) n cb) ∧ w'.cell? ⟨b6, 0, none⟩ = some (.slice Ak n ck) ∧ w'.cell? ⟨w.heap.size, 0, none⟩ = some (.slice A p.1.length c)) [9, 10] (PlanT.takes [1, 5] (PlanT.takes [0, 4, 6] (PlanT.chains (.opt 8 (.opt 9 (.opt 10 .done .no) .no) .no) [2, 3] [7]))) (by kernel_rfl) (by kernel_rfl) hc0 ?_
    refine wpTree_pure _ _ _ (by rfl) (by rfl) ?_
    dsimp only [List.filterMap, List.getElem?_cons_zero, List.getElem?_cons_succ]
    repeat (go_big_quiet_step (fail))
    refine wpQuiet_nil ?_
    refine wpTree_takeL _ _ _ (by rfl) (by rfl) (hc0) ?_
    dsimp only [List.filterMap, List.getElem?_cons_zero, List.getElem?_cons_succ]
    (refine wpQuiet_load_cell (fun w' hw' => hw'.1) (by rfl) _ _ (by rfl) (by rfl) _ Tryd.underlying83 (by rfl) ?_; simp only [Act.put, List.setIfInBounds_toArray, List.set_cons_zero, List.set_cons_succ])
    (refine wpQuiet_load_cell (fun w' hw' => hw'.2.1) (by rfl) _ _ (by rfl) (by rfl) _ Tryd.underlying83 (by rfl) ?_; simp only [Act.put, List.setIfInBounds_toArray, List.set_cons_zero, List.set_cons_succ])
    (refine wpQuiet_load_cell (fun w' hw' => hw'.2.2) (by rfl) _ _ (by rfl) (by rfl) _ Tryd.underlying22 (by rfl) ?_; simp only [Act.put, List.setIfInBounds_toArray, List.set_cons_zero, List.set_cons_succ])
    refine wpQuiet_nil ?_
    have hoff : ∀ x, (∃ cs t, t ≠ 22 ∧ Blk w1 x t cs) → x ∉ (Value.slice (some ⟨gb, 0, none⟩) G.length cb).ownBlock.toList := fun x ⟨cs, t, ht, hb⟩ hm => by
      obtain ⟨cs', hb'⟩ := ownBlk H1.out.2.2.2.2.1.own (Option.mem_toList.1 hm)
      exact hb.apart hb' ht rfl
    have HO := Lib.hid hoff
    clear hoff hc0
    refine wpTree_rows _ [2, 3] [7] (AddR w1.drew base n (.slice (some ⟨gb, 0, none⟩) n cb) (.slice Au lu cu) bs sp (.slice A p.1.length c)) _ _ ?r0 ?r1 ?r2 ?rC ?rE
    case r0 => exact ⟨undef, undef, undef, rfl, Near.refl _ _, fun _ => by rw [HN.out]; exact OwnsC.ownBelow H1.out.2.2.2.2.1.own hw0, fun h => absurd h (by decide), fun h => absurd h (by decide), fun h => absurd h (by decide)⟩
    case rC =>
      rintro i j a' w' ⟨x, y, z, -, hN, -⟩
      rw [HN.out] at hN d1 d2 ⊢
      exact ⟨(hN.cell (p := ⟨b5, 0, none⟩) H1.out.2.1.lt (HO.out b5 ⟨_, _, by decide, H1.out.2.1⟩)).trans d1, (hN.cell (p := ⟨b6, 0, none⟩) H1.out.2.2.1.lt (HO.out b6 ⟨_, _, by decide, H1.out.2.2.1⟩)).trans d2, (hN.cell (p := ⟨w.heap.size, 0, none⟩) H1.out.2.2.2.1.lt (HO.out _ ⟨_, _, by decide, H1.out.2.2.2.1⟩)).trans d3⟩
    case r1 =>
      rintro i j a' w' hi hj ⟨x, y, z, rfl, hN, h0, h1, h2, h3⟩
      have hi' : i = 0 ∨ i = 1 := by have : i < 2 := hi; omega
      rcases hi' with rfl | rfl
      · have ho := h0 rfl
        clear h0 h1 h2
        refine wpOp_of_list _ rfl ?_
        simp only [Act.put, List.setIfInBounds_toArray, List.set_cons_zero, List.set_cons_succ]
        have HX := Lib.hid (And.intro hN (And.intro ho h3))
        clear hN ho h3
        go_wp2_with fail
        have hbl := ((Below.refl w'.heap.size w').alloc (Nat.le_refl _) (.cells #[.slice Au lu cu] 22))
        have hra : Reads (w'.alloc (.cells #[.slice Au lu cu] 22)) (some ⟨w'.heap.size, 0, none⟩) [.slice Au lu cu] := reads_new w' 22 [.slice Au lu cu]
        show AddR _ _ _ _ _ _ _ _ _ _ _ _ _
        refine ⟨.slice (some ⟨w'.heap.size, 0, none⟩) 1 1, y, z, rfl, HX.out.1.trans (Near.below hbl), fun h => absurd h (by decide), fun _ => ⟨OwnsC.ownBelow HX.out.2.1 hbl, _, rfl, hra⟩, fun h => absurd h (by decide), fun hj1 => ?_⟩
        obtain ⟨g, e1, e2, e3, e4, e5⟩ := HX.out.2.2 hj1
        exact ⟨g, e1, e2, Nat.lt_of_lt_of_le e3 hbl.size, fun _ _ h => absurd h (by decide), e5.below hbl⟩
      · obtain ⟨ho, gx, rfl, hrx⟩ := h1 rfl
        clear h0 h1 h2
        refine wpOp_of_list _ rfl ?_
        simp only [Act.put, List.setIfInBounds_toArray, List.set_cons_zero, List.set_cons_succ]
        have HX := Lib.hid (And.intro hN (And.intro ho (And.intro h3 hrx)))
        clear hN ho h3 hrx
        go_wp2_with (first
          | ((with_reducible show wpList _ _ _ ((⟨some 27, _, _, _, _, _⟩ : Oper) :: _) _ _); refine wpList_append_vals (o := ⟨some 27, _, _, _, _, _⟩) (by rfl) _ _ _ (by rfl) base 22 (.slice none 0 0) 1 24 Tryd.underlying83 infoSl (by rfl) (by omega) (.slice (some ⟨gb, 0, none⟩) n cb) n bs sp (by rfl) HX.out.2.1 (some ⟨gx, 0, none⟩) 1 1 [.slice Au lu cu] (by rfl) (by rfl) HX.out.2.2.2 (by simp [Value.oneCell']) (by have := HA.out.2.2.2.2.1; have := HN.out; simp only [maxLen]; omega) (by have := HA.out.2.2.2.2.1; have := HN.out; omega) (by have := HA.out.2.2.2.2.2.2.1; have := H1.out.1.size; have := HX.out.1.size; exact Nat.le_trans (Nat.le_trans ‹base ≤ w.heap.size› ‹w.heap.size ≤ w1.heap.size›) ‹_›) ?_; intro v' W5 sp5 ho5 hg5 hv5 hn5; refine stopped ?_)
          | fail)
        refine Stopped.mk ?_
        have hvl : ∀ x, (Value.slice (some ⟨gb, 0, none⟩) n cb).ownBlock = some x → x < w1.drew.heap.size := fun x hx => by rw [HN.out] at hx; exact (OwnsC.lt H1.out.2.2.2.2.1.own x hx).2
        have hs1 := HX.out.1.size
        show AddR _ _ _ _ _ _ _ _ _ _ _ _ _
        refine ⟨_, v', z, rfl, HX.out.1.trans (Near.grown hg5 (fun x hx => Option.mem_toList.2 hx)), fun h => absurd h (by decide), fun h => absurd h (by decide), fun _ => ⟨sp5, ho5, fun g hg => ?_⟩, fun hj1 => ?_⟩
        · rcases hv5 with e | e
          · exact .inl (e ▸ hg)
          · rw [hg] at e; injection e with e; exact .inr (by omega)
        · obtain ⟨g, e1, e2, e3, e4, e5⟩ := HX.out.2.2.1 hj1
          refine ⟨g, e1, e2, Nat.lt_of_lt_of_le e3 hg5.size, fun g' hg' _ => ?_, reads_near e5 (Near.grown hg5 (fun x hx => Option.mem_toList.2 hx)) (fun hm => by have := hvl g (Option.mem_toList.1 hm); omega)⟩
          rcases hv5 with e | e
          · have := hvl g' (e ▸ hg'); omega
          · rw [hg'] at e; injection e with e; omega
    case r2 =>
      rintro i j a' w' hi hj ⟨x, y, z, rfl, hN, h0, h1, h2, h3⟩
      obtain rfl : j = 0 := by have : j < 1 := hj; omega
      refine wpOp_of_list _ rfl ?_
      simp only [Act.put, List.setIfInBounds_toArray, List.set_cons_zero, List.set_cons_succ]
      have HX := Lib.hid (And.intro hN (And.intro h0 (And.intro h1 h2)))
      clear hN h0 h1 h2 h3
      go_wp2_with fail
      have hbl := ((Below.refl w'.heap.size w').alloc (Nat.le_refl _) (.cells #[.slice A p.1.length c] 22))
      have hra : Reads (w'.alloc (.cells #[.slice A p.1.length c] 22)) (some ⟨w'.heap.size, 0, none⟩) [.slice A p.1.length c] := reads_new w' 22 [.slice A p.1.length c]
      show AddR _ _ _ _ _ _ _ _ _ _ _ _ _
      refine ⟨x, y, .slice (some ⟨w'.heap.size, 0, none⟩) 1 1, rfl, HX.out.1.trans (Near.below hbl), fun h => OwnsC.ownBelow (HX.out.2.1 h) hbl, fun h => ?_, fun h => ?_, fun _ => ⟨_, rfl, HX.out.1.size, by simp, fun g hg hi2 => ?_, hra⟩⟩
      · obtain ⟨ho, g, e1, e2⟩ := HX.out.2.2.1 h
        exact ⟨OwnsC.ownBelow ho hbl, g, e1, e2.below hbl⟩
      · obtain ⟨sp', ho, hy⟩ := HX.out.2.2.2 h
        exact ⟨sp', OwnsC.ownBelow ho hbl, hy⟩
      · obtain ⟨sp', ho, hy⟩ := HX.out.2.2.2 hi2
        have := (OwnsC.lt ho g hg).2
        omega
    case rE =>
      rintro a' w' ⟨x, y, z, rfl, hN, -, -, h2, h3⟩
      obtain ⟨sp2, ho2, hy2⟩ := h2 rfl
      obtain ⟨gz, rfl, hz1, hz2, hz3, hrz⟩ := h3 rfl
      simp only [Act.put, List.setIfInBounds_toArray, List.set_cons_zero, List.set_cons_succ]
      have hvl : ∀ x, (Value.slice Ak n ck).ownBlock = some x → x < w1.heap.size := fun x hx => by rw [HN.out] at hx; exact (OwnsC.lt H1.out.2.2.2.2.2.1.own x hx).2
      have hkk : KeysN N w' base (.slice Ak n ck) G ks sk := by
        have := (H1.out.2.2.2.2.2.1.below hw0).near hN (fun x hx hm => by
          have e := Option.mem_toList.1 hm
          rw [HN.out] at e
          exact HA.out.2.2.2.2.2.2.2.2 x e hx) (fun x hx => by
          have e := Option.mem_toList.1 hx
          rw [HN.out] at e
          exact (OwnsC.lt H1.out.2.2.2.2.1.own x e).1)
        rw [← HN.out] at this; exact this
      have hko : OwnsC 22 1 w' base (.slice Ak n ck) n ks sk := by have := hkk.own; rw [← HN.out] at this; exact this
      obtain ⟨Ay, cy, rfl, -, -, -, -⟩ := OwnsC.reads ho2
      have HX := Lib.hid (And.intro hN (And.intro ho2 (And.intro hy2 (And.intro hz1 (And.intro hz2 (And.intro hz3 (And.intro hrz (And.intro hkk hko))))))))
      clear hN ho2 hy2 hz1 hz2 hz3 hrz hkk hko hw0
      refine wpTree_one _ rfl ?_
      go_wp2_with (first
        | ((with_reducible show wpList _ _ _ ((⟨some 32, _, _, _, _, _⟩ : Oper) :: _) _ _); refine wpList_append_vals (o := ⟨some 32, _, _, _, _, _⟩) (by rfl) _ _ _ (by rfl) base 22 (.slice none 0 0) 1 24 Tryd.underlying83 infoSl (by rfl) (by omega) (.slice Ak n ck) n ks sk (by rfl) HX.out.2.2.2.2.2.2.2.2 (some ⟨gz, 0, none⟩) 1 1 [.slice A p.1.length c] (by rfl) (by rfl) HX.out.2.2.2.2.2.2.1 (by simp [Value.oneCell']) (by have := HA.out.2.2.2.2.1; have := HN.out; simp only [maxLen]; omega) (by have := HA.out.2.2.2.2.1; have := HN.out; omega) (by have := HA.out.2.2.2.2.2.2.1; have := H1.out.1.size; have := HX.out.1.size; exact Nat.le_trans (Nat.le_trans ‹base ≤ w.heap.size› ‹w.heap.size ≤ w1.heap.size›) ‹_›) ?_; intro v6 W6 sp6 ho6 hg6 hv6 hn6; refine stopped ?_)
        | fail)
      refine Stopped.mk ?_
      have hNb := HX.out.1
      have hob : ∀ x, (∃ cs t, t ≠ 22 ∧ Blk w1 x t cs) → x ∉ (Value.slice (some ⟨gb, 0, none⟩) n cb).ownBlock.toList := by rw [HN.out]; exact HO.out
      have hok : ∀ x, (∃ cs t, t ≠ 22 ∧ Blk w1 x t cs) → x ∉ (Value.slice Ak n ck).ownBlock.toList := fun x ⟨cs, t, ht, hb⟩ hm => by
        rw [HN.out] at hm
        obtain ⟨cs', hb'⟩ := ownBlk H1.out.2.2.2.2.2.1.own (Option.mem_toList.1 hm)
        exact hb.apart hb' ht rfl
      have hNk : Near (Value.slice Ak n ck).ownBlock.toList w' W6 := Near.grown hg6 (fun x hx => Option.mem_toList.2 hx)
      have q5 := ((H1.out.2.1.below (Below.refl w1.heap.size w1).drew H1.out.2.1.lt).near hNb (hob b5 ⟨_, _, by decide, H1.out.2.1⟩)).near hNk (hok b5 ⟨_, _, by decide, H1.out.2.1⟩)
      have q6 := ((H1.out.2.2.1.below (Below.refl w1.heap.size w1).drew H1.out.2.2.1.lt).near hNb (hob b6 ⟨_, _, by decide, H1.out.2.2.1⟩)).near hNk (hok b6 ⟨_, _, by decide, H1.out.2.2.1⟩)
      have qp := ((H1.out.2.2.2.1.below (Below.refl w1.heap.size w1).drew H1.out.2.2.2.1.lt).near hNb (hob _ ⟨_, _, by decide, H1.out.2.2.2.1⟩)).near hNk (hok _ ⟨_, _, by decide, H1.out.2.2.2.1⟩)
      rw [← HN.out] at q5 q6
      have hc6 : W6.cell? ⟨b5, 0, none⟩ = some (.slice (some ⟨gb, 0, none⟩) n cb) ∧ W6.cell? ⟨b6, 0, none⟩ = some (.slice Ak n ck) ∧ W6.cell? ⟨w.heap.size, 0, none⟩ = some (.slice A p.1.length c) := ⟨q5.at_ 0 rfl, q6.at_ 0 rfl, qp.at_ 0 rfl⟩
      obtain ⟨A6, c6, rfl, -, -, -, -⟩ := OwnsC.reads ho6
      have d5 := hc6.1
      have f5 := q5.frozen 0
      have q7 := q6.off (c := b5) (i := 0) (fun e => HA.out.2.1 e.symm) (.slice Ay (n + 1) cy)
      have d6 := q7.at_ 0 (v := .slice Ak n ck) rfl
      have f6 := q7.frozen 0
      have H6 := Lib.hid (And.intro hNk (And.intro q5 (And.intro q6 (And.intro ho6 (And.intro hv6 hg6)))))
      clear hNb hob hok hNk q5 q6 qp ho6 hv6 hg6 hn6 q7 d1 d2 d3
      go_wp2_with fail
      refine TreeQ.in_ hc6 ?_
      clear hc6
      refine wpTree_one _ rfl ?_
      go_wp2_with fail
      refine TreeQ.out (by rfl) ?_
      refine wpTree_one _ rfl ?_
      go_wp2_with fail
      refine TreeQ.out (by rfl) ?_
      refine wpTree_done ?_
      clear d5 f5 d6 f6
      go_wp2_with fail
      refine bodyPost_ret (v := .tuple #[]) (by simp [results]) rfl ?_
      rw [HPD.out]
      have hdr := (Below.refl w1.heap.size w1).drew
      have hb1 : Below base w w1.drew := (H1.out.1.mono HA.out.2.2.2.2.2.2.1).drew
      have hn := HN.out
      subst hn
      exact ⟨rfl, pack_new (H1.out.2.2.2.2.1.below hdr) HX.out.2.2.2.2.2.2.2.1 (OwnsC.base_ (OwnsC.ownBelow H1.out.2.2.2.2.2.2.2.1 hdr) (by have := HA.out.2.2.2.2.2.2.1; have := H0.out.1.size; omega)) H1.out.2.2.2.2.2.2.2.2 HX.out.1 HX.out.2.1 HX.out.2.2.1 H6.out.1 H6.out.2.2.2.1 H6.out.2.2.2.2.1 H6.out.2.1 H6.out.2.2.1 HA.out.2.1 HA.out.2.2.2.2.2.2.2.2 (fun x hx => (OwnsC.lt H1.out.2.2.2.2.2.1.own x hx).2)
        H1.out.2.2.2.2.2.2.1.kc H1.out.2.2.2.2.2.2.1.km (Bytes.near (Bytes.below H1.out.2.2.2.2.2.2.1.k hdr) HX.out.1 (fun ad e hm => by have := (HA.out.1 ad e).1; have := (OwnsC.lt H1.out.2.2.2.2.1.own _ (Option.mem_toList.1 hm)).1; omega)) HA.out.1 HA.out.2.2.1 HA.out.2.2.2.1 hb1 HA.out.2.2.2.2.2.2.1⟩
  · rw [if_neg hbig] at hpl
    have HPD := Lib.hid hpl
    have kc : decide (((lm + lu : Nat) : Int) > 860) = false := decide_eq_false (by omega)
    have kc2 : decide (860 < lm + lu) = false := decide_eq_false hbig
    have kc3 : decide ((lm : Int) + (lu : Int) > 860) = false := decide_eq_false (by omega)
    clear hpl hbig
    go_wp2_with fail
    have hw0 : Below w1.heap.size w1 w1.drew := (Below.refl _ _).drew
    have hc0 : w1.drew.cell? ⟨b5, 0, none⟩ = some (.slice (some ⟨gb, 0, none⟩) n cb) ∧ w1.drew.cell? ⟨gb, m, none⟩ = some (.slice Am lm cm) := ⟨d1, d7⟩
    refine wp_region_treeT (fun w' => w'.cell? ⟨b5, 0, none⟩ = some (.slice (some ⟨gb, 0, none⟩) n cb) ∧ w'.cell? ⟨gb, m, none⟩ = some (.slice Am lm cm)) [9] (PlanT.takes [1, 3, 6] (PlanT.takes [0, 2] (PlanT.takes [4] (PlanT.takes [5] (.opt 7 (PlanT.takes [8] (.opt 9 .done .no)) .no))))) (by kernel_rfl) (by kernel_rfl) hc0 ?_
    refine wpTree_pure _ _ _ (by rfl) (by rfl) ?_
    dsimp only [List.filterMap, List.getElem?_cons_zero, List.getElem?_cons_succ]
    repeat (go_big_quiet_step (fail))
    refine wpQuiet_nil ?_
    refine wpTree_takeL _ _ _ (by rfl) (by rfl) (hc0) ?_
    dsimp only [List.filterMap, List.getElem?_cons_zero, List.getElem?_cons_succ]
    (refine wpQuiet_load_cell (fun w' hw' => hw'.1) (by rfl) _ _ (by rfl) (by rfl) _ Tryd.underlying83 (by rfl) ?_; simp only [Act.put, List.setIfInBounds_toArray, List.set_cons_zero, List.set_cons_succ])
    (refine wpQuiet_load_cell (fun w' hw' => hw'.1) (by rfl) _ _ (by rfl) (by rfl) _ Tryd.underlying83 (by rfl) ?_; simp only [Act.put, List.setIfInBounds_toArray, List.set_cons_zero, List.set_cons_succ])
    refine wpQuiet_nil ?_
    refine wpTree_pure _ _ _ (by rfl) (by rfl) ?_
    dsimp only [List.filterMap, List.getElem?_cons_zero, List.getElem?_cons_succ]
    repeat (go_big_quiet_step (fail))
    refine wpQuiet_nil ?_
    refine wpTree_takeL _ _ _ (by rfl) (by rfl) (hc0) ?_
    dsimp only [List.filterMap, List.getElem?_cons_zero, List.getElem?_cons_succ]
    (refine wpQuiet_load_cell (fun w' hw' => hw'.2) (by rfl) _ _ (by rfl) (by rfl) _ Tryd.underlying22 (by rfl) ?_; simp only [Act.put, List.setIfInBounds_toArray, List.set_cons_zero, List.set_cons_succ])
    refine wpQuiet_nil ?_
    refine wpTree_one _ rfl ?_
    have hgv : (Value.slice (some ⟨gb, 0, none⟩) G.length cb).ownBlock = some gb := rfl
    obtain ⟨csg, hbg⟩ := ownBlk H1.out.2.2.2.2.1.own hgv
    have hoff : ∀ x, (∃ cs t, t ≠ 5 ∧ Blk w1 x t cs) → x ∉ (Value.slice Am lm cm).ownBlock.toList := fun x ⟨cs, t, ht, hb⟩ hm => by
      rw [HM.out.1] at hm
      obtain ⟨cs', hb'⟩ := ownBlk HM.out.2.2.2.2.1 (Option.mem_toList.1 hm)
      exact hb.apart hb' ht rfl
    have hom : OwnB 5 w1.drew base (.slice Am lm cm) (gbody g) sm := by rw [HM.out.1]; exact OwnsC.ownBelow HM.out.2.2.2.2.1 hw0
    have huu : Bytes w1.drew Au (pbytes p) := by
      obtain ⟨A', c', e', -, -, hb'⟩ := OwnB.open_ H1.out.2.2.2.2.2.2.2.1
      injection e' with e1
      subst e1
      exact Bytes.below hb' hw0
    have HO := Lib.hid (And.intro hoff (And.intro hom (And.intro huu (And.intro hbg hw0))))
    clear hoff hom huu hbg hw0 hgv hc0
    go_wp2_with (first
      | ((with_reducible show wpList _ _ _ ((⟨some 40, _, _, _, _, _⟩ : Oper) :: _) _ _); refine wpList_append_bytes (o := ⟨some 40, _, _, _, _, _⟩) (by rfl) _ _ _ (by rfl) base 5 Tryd.underlying22 u8info (.slice Am lm cm) (gbody g) sm (by rfl) HO.out.2.1 Au cu (pbytes p) (by rw [HU.out.1.symm]; rfl) HO.out.2.2.1 (by have := HU.out; have := HM.out.1; omega) (by have := HA.out.2.2.2.2.2.2.1; have := H1.out.1.size; exact Nat.le_trans ‹base ≤ w.heap.size› ‹_›) ?_; intro v' W5 sp5 ho5 hg5 hv5 hn5; refine stopped ?_)
      | fail)
    refine Stopped.mk ?_
    have hN5 : Near (Value.slice Am lm cm).ownBlock.toList w1.drew W5 := Near.grown hg5 (fun x hx => Option.mem_toList.2 hx)
    have q5 := (H1.out.2.1.below HO.out.2.2.2.2 H1.out.2.1.lt).near hN5 (HO.out.1 b5 ⟨_, _, by decide, H1.out.2.1⟩)
    have q6 := (H1.out.2.2.1.below HO.out.2.2.2.2 H1.out.2.2.1.lt).near hN5 (HO.out.1 b6 ⟨_, _, by decide, H1.out.2.2.1⟩)
    have qg := (HO.out.2.2.2.1.below HO.out.2.2.2.2 HO.out.2.2.2.1.lt).near hN5 (HO.out.1 gb ⟨_, _, by decide, HO.out.2.2.2.1⟩)
    have d8 : W5.cell? ⟨gb, m, none⟩ = some (.slice Am lm cm) := (hN5.cell (p := ⟨gb, m, none⟩) HO.out.2.2.2.1.lt (HO.out.1 gb ⟨_, _, by decide, HO.out.2.2.2.1⟩)).trans d7
    have f8 := qg.frozen m
    rw [← HN.out] at q5 q6
    have hc5 : W5.cell? ⟨b5, 0, none⟩ = some (.slice (some ⟨gb, 0, none⟩) n cb) ∧ W5.cell? ⟨gb, m, none⟩ = some (.slice Am lm cm) := ⟨q5.at_ 0 rfl, d8⟩
    obtain ⟨A5, c5, rfl, -, -, -⟩ := OwnB.open_ ho5
    have H5 := Lib.hid (And.intro hN5 (And.intro q5 (And.intro q6 (And.intro qg (And.intro ho5 hv5)))))
    clear hN5 q5 q6 qg ho5 hv5 hn5 hg5 d1 d2 d3 d7
    go_wp2_with fail
    refine TreeQ.in_ hc5 ?_
    refine wpTree_pure _ _ _ (by rfl) (by rfl) ?_
    dsimp only [List.filterMap, List.getElem?_cons_zero, List.getElem?_cons_succ]
    repeat (go_big_quiet_step (fail))
    refine wpQuiet_nil ?_
    refine wpTree_one _ rfl ?_
    go_wp2_with fail
    refine TreeQ.out (by rfl) ?_
    refine wpTree_done ?_
    clear hc5 d8 f8 kn kc kc2 kc3 ks0 kw
    go_wp2_with fail
    refine bodyPost_end (v := .tuple #[]) (by simp [results]) rfl ?_
    rw [HPD.out]
    have hn := HN.out
    subst hn
    have hdr := HO.out.2.2.2.2
    have hsp := HM.out.2.1
    have hml := HM.out.2.2.1
    have hb1 : Below base w w1.drew := (H1.out.1.mono HA.out.2.2.2.2.2.2.1).drew
    have hG := H1.out.2.2.2.2.1.below hdr
    have hK := H1.out.2.2.2.2.2.1.below hdr
    have hgne : g ≠ [] := HA.out.2.2.2.2.2.1.ne g (by rw [hsp]; simp)
    have hbm := HM.out.2.2.2.1
    have hom := HM.out.2.2.2.2.1
    have hlm := HM.out.1
    subst hlm
    have := pack_more (w := w) (W0 := w1.drew) (W5 := W5) (base := base) (b5 := b5) (b6 := b6) (gb := gb) (G := G.dropLast) (g := g) (p := p) (bs := bs) (sp := sp) (ks := ks) (sk := sk)
      (by rw [← hsp]; exact hG) (by rw [hml]; exact hbm) H5.out.2.2.2.2.1 H5.out.2.2.2.2.2 H5.out.1 rfl (by rw [← hsp]; exact hK) hgne H5.out.2.1 H5.out.2.2.1 HA.out.2.2.2.2.2.2.2.2 hb1 HA.out.2.2.2.2.2.2.1
    rw [hml, List.length_append] at this
    exact ⟨rfl, this⟩
end Go.Proofs.YtgkljncigbiffaaDoor

/- The bodies of pairs' data blocks: the program's pack and Pack. Condition: the pairs can be read. -/
namespace Go.Proofs.YtgkljncigbiffaaDoor
open Go.RowKit
theorem packTake {l : List PairT} {i : Nat} (hi : i < l.length) : pgroups (l.take (i + 1)) = padd (pgroups (l.take i)) l[i] := by
  unfold pgroups
  rw [List.take_succ_eq_append_getElem hi, List.foldl_append]
  rfl
/-- Ahead of each pair. -/
def PkRel (N : Nat → Prop) (w : World) (b5 : Nat) (l : List PairT) (v : Value) (wr : World) : Prop := ∃ i : Nat, i ≤ l.length ∧ v = .int .i64 (i : Int) ∧ (l.take i).all pok = true ∧ PackSt N wr w.heap.size b5 (b5 + 1) (pgroups (l.take i)) ∧ Below w.heap.size w wr
theorem PackSt.lt {N : Nat → Prop} {w : World} {base b5 b6 : Nat} {G : List (List PairT)} (h : PackSt N w base b5 b6 G) : b5 < w.heap.size ∧ b6 < w.heap.size := by
  obtain ⟨vb, vk, bs, sp, ks, sk, h5, h6, -⟩ := h
  exact ⟨h5.lt, h6.lt⟩
theorem PackSt.below {N : Nat → Prop} {w w' : World} {base b5 b6 : Nat} {G : List (List PairT)} (h : PackSt N w base b5 b6 G) (k : Below w.heap.size w w') : PackSt N w' base b5 b6 G := by
  obtain ⟨vb, vk, bs, sp, ks, sk, h5, h6, h7, h8, h9⟩ := h
  exact ⟨vb, vk, bs, sp, ks, sk, h5.below k h5.lt, h6.below k h6.lt, h7.below k, h8.below k, h9⟩
theorem BodsAt.nil (w : World) (base : Nat) : BodsAt w base (.slice none 0 0) [] [] [] := ⟨OwnsC.nil _ _ _ _, fun i g h => (by simp at h), fun i j u u' x _ h => (by simp at h)⟩
theorem KeysN.nil {N : Nat → Prop} (w : World) (base : Nat) : KeysN N w base (.slice none 0 0) [] [] [] := ⟨OwnsC.nil _ _ _ _, fun i g h => (by simp at h)⟩
/-- What pack answers. -/
def PackTold (N : Nat → Prop) (w : World) (l : List PairT) (e : Ending) (w' : World) : Prop := ∃ (vb vk : Value) (bs sp ks sk : List Value), e = .returned (.tuple #[vb, vk, .int .i64 (ppack l).1]) ∧ BodsAt w' w.heap.size vb (ppack l).2 bs sp ∧ KeysN N w' w.heap.size vk (ppack l).2 ks sk ∧ (∀ x, vb.ownBlock = some x → vk.ownBlock ≠ some x) ∧ Below w.heap.size w w'
theorem PackTold.no {N : Nat → Prop} {w w' : World} {l : List PairT} (h : ppack l = (2, [])) (k : Below w.heap.size w w') : PackTold N w l (.returned (.tuple #[.slice none 0 0, .slice none 0 0, .int .i64 2])) w' := by
  refine ⟨.slice none 0 0, .slice none 0 0, [], [], [], [], by rw [h], by rw [h]; exact BodsAt.nil _ _, by rw [h]; exact KeysN.nil _ _, fun x hx => (by cases hx), k⟩
set_option maxRecDepth 100000 in
set_option maxHeartbeats 4000000 in
theorem pack_any {N : Nat → Prop} (A : Option Addr) (c : Nat) (l : List PairT) (hl : l.length ≤ 65536) (w : World) (h : Pairs w A l) (hN : ∀ (i b off : Nat) (p : PairT) (A1 : Option Addr) (c1 : Nat), l[i]? = some p → A = some ⟨b, off, none⟩ → w.cell? ⟨b, off + i * 3, none⟩ = some (.slice A1 p.1.length c1) → 1 ≤ p.1.length → ∀ ad, A1 = some ad → N ad.block) :
    Calls Tryd.prog 50 #[.slice A l.length c] w (PackTold N w l) := by
  have HH := Lib.hid h
  have HNN := Lib.hid hN
  clear hN
  have hso := sorted_any A c l hl w h
  obtain ⟨n, hn⟩ : ∃ n, n = l.length := ⟨_, rfl⟩
  rw [← hn] at hl hso ⊢
  have HN := Lib.hid hn
  clear h
  go_enter Tryd.func50, Tryd.ntmps50
  by_cases h0 : n = 0
  · have HF := Lib.hid (PackTold.no (N := N) (w := w) (w' := w) (show ppack l = (2, []) by unfold ppack; rw [if_pos (.inl (List.eq_nil_of_length_eq_zero (by omega)))]) (Below.refl _ _))
    subst h0
    clear hso hn hl
    go_wp2_with fail
    refine bodyPost_ret (results_tmp3 rfl _ _ _) rfl ?_
    exact HF.out
  have k0 : ((n : Int) == 0) = false := beq_eq_false_iff_ne.2 (by omega)
  by_cases h64 : 64 < n
  · have HF := Lib.hid (PackTold.no (N := N) (w := w) (w' := w) (show ppack l = (2, []) by unfold ppack; rw [if_pos (.inr (.inl (by omega)))]) (Below.refl _ _))
    have k1 : decide ((n : Int) > 64) = true := decide_eq_true (by omega)
    have k2 : decide (64 < n) = true := decide_eq_true h64
    clear hso hn h0 h64 hl
    go_wp2_with fail
    refine bodyPost_ret (results_tmp3 rfl _ _ _) rfl ?_
    exact HF.out
  have k1 : decide ((n : Int) > 64) = false := decide_eq_false (by omega)
  have k2 : decide (64 < n) = false := decide_eq_false h64
  have hn64 : n ≤ 64 := by omega
  clear hn h0 h64 hl
  go_wp2_with fail
  refine hso.mono ?_
  rintro e w1 ⟨rfl, hbx⟩
  cases hs : psorted l
  · have HF := Lib.hid (PackTold.no (N := N) (w := w) (w' := w1) (show ppack l = (2, []) by unfold ppack; rw [if_pos (.inr (.inr (.inl hs)))]) hbx)
    clear hs hbx hso
    go_wp2_with fail
    refine bodyPost_ret (results_tmp3 rfl _ _ _) rfl ?_
    exact HF.out
  have h5 := (Blk.new w1 83 #[.slice none 0 0]).alloc (.cells #[.slice none 0 0] 83)
  have h6 := Blk.new' (w1.alloc (.cells #[.slice none 0 0] 83)) 83 #[.slice none 0 0] (n := w1.heap.size + 1) (by simp)
  have hB2 := (hbx.alloc hbx.size (.cells #[.slice none 0 0] 83)).alloc (Nat.le_trans hbx.size (by simp)) (.cells #[.slice none 0 0] 83)
  have hS : PackSt N ((w1.alloc (.cells #[.slice none 0 0] 83)).alloc (.cells #[.slice none 0 0] 83)) w.heap.size w1.heap.size (w1.heap.size + 1) [] := ⟨_, _, [], [], [], [], h5, h6, BodsAt.nil _ _, KeysN.nil _ _, fun x hx => (by cases hx)⟩
  have H1 := Lib.hid (And.intro hs (And.intro hbx.size (And.intro hS hB2)))
  clear hs hbx hso h5 h6 hB2 hS
  go_wp2_with fail
  generalize ((w1.alloc (.cells #[.slice none 0 0] 83)).alloc (.cells #[.slice none 0 0] 83)) = w2 at H1 ⊢
  generalize w1.heap.size = b5 at H1 ⊢
  go_loopw [26] (fun v wr => PkRel N w b5 l v wr) (fun v _ => n - (intOf v).toNat)
  case atStart => exact ⟨0, Nat.zero_le _, rfl, rfl, H1.out.2.2.1, H1.out.2.2.2⟩
  case round =>
    obtain ⟨i, hi, rfl, hall, hS, hB⟩ := hrel
    by_cases hlt : i < n
    case neg =>
      obtain rfl : i = n := by have := HN.out; omega
      have he : l.take i = l := by rw [HN.out, List.take_length]
      rw [he] at hall hS
      have hp : ppack l = (0, pgroups l) := by
        unfold ppack
        rw [if_neg (by rw [H1.out.1, hall]; simp; exact ⟨by intro e; rw [e] at HN; exact absurd HN.out (by simp; intro e; subst e; simp at k0), by rw [← HN.out]; omega⟩)]
      obtain ⟨vb, vk, bs, sp, ks, sk, q5, q6, hG, hK, hvv⟩ := hS
      have HF := Lib.hid (show PackTold N w l (.returned (.tuple #[vb, vk, .int .i64 0])) wr.drew from ⟨vb, vk, bs, sp, ks, sk, by rw [hp], by rw [hp]; exact hG.below (Below.refl _ _).drew, by rw [hp]; exact hK.below (Below.refl _ _).drew, hvv, hB.drew⟩)
      obtain ⟨A1, c1, rfl, -, -, -, -⟩ := OwnsC.reads hG.own
      obtain ⟨A2, c2, rfl, -, -, -, -⟩ := OwnsC.reads hK.own
      generalize (pgroups l).length = m at *
      have d5 := q5.at_ 0 (v := .slice A1 m c1) rfl
      have d6 := q6.at_ 0 (v := .slice A2 m c2) rfl
      have hc0 : wr.drew.cell? ⟨b5, 0, none⟩ = some (.slice A1 m c1) ∧ wr.drew.cell? ⟨b5 + 1, 0, none⟩ = some (.slice A2 m c2) := ⟨d5, d6⟩
      clear q5 q6 hG hK hvv hp he hall hB H1 HN HH hlt hi k0 k1 k2
      go_wp2_with fail
      refine wp_region_tree (fun w' => w'.cell? ⟨b5, 0, none⟩ = some (.slice A1 m c1) ∧ w'.cell? ⟨b5 + 1, 0, none⟩ = some (.slice A2 m c2)) [] (PlanT.takes [0, 1] (PlanT.takes [2, 3, 4] .done)) (by kernel_rfl) (by kernel_rfl) (hc0) ?_
      refine wpTree_takeL _ _ _ (by rfl) (by rfl) (hc0) ?_
      dsimp only [List.filterMap, List.getElem?_cons_zero, List.getElem?_cons_succ]
      (refine wpQuiet_load_cell (fun w' hw' => hw'.1) (by rfl) _ _ (by rfl) (by rfl) _ Tryd.underlying83 (by rfl) ?_; simp only [Act.put, List.setIfInBounds_toArray, List.set_cons_zero, List.set_cons_succ])
      (refine wpQuiet_load_cell (fun w' hw' => hw'.2) (by rfl) _ _ (by rfl) (by rfl) _ Tryd.underlying83 (by rfl) ?_; simp only [Act.put, List.setIfInBounds_toArray, List.set_cons_zero, List.set_cons_succ])
      refine wpQuiet_nil ?_
      refine wpTree_pure _ _ _ (by rfl) (by rfl) ?_
      dsimp only [List.filterMap, List.getElem?_cons_zero, List.getElem?_cons_succ]
      repeat (go_big_quiet_step (fail))
      refine wpQuiet_nil ?_
      refine wpTree_done ?_
      clear hc0 d5 d6
      go_wp2_with fail
      refine bodyPost_ret (results_tmp3 rfl _ _ _) rfl ?_
      exact HF.out
    have hil : i < l.length := by have := HN.out; omega
    obtain ⟨b, off, hAe, hbl, hc⟩ := HH.out (by omega)
    obtain ⟨A1, c1, A2, c2, d1, d2, d3, hp⟩ := hc i hil
    have hxs : Hid (pgroups (l.take (i + 1)) = padd (pgroups (l.take i)) l[i]) := Lib.hid (packTake hil)
    have hxa : Hid ((l.take (i + 1)).all pok = pok l[i]) := Lib.hid (by rw [List.take_succ_eq_append_getElem hil, List.all_append, hall]; simp)
    have hxm : Hid (l[i] ∈ l) := Lib.hid (List.getElem_mem hil)
    have hal : 1 ≤ l[i].1.length → ∀ ad, A1 = some ad → ad.block < w.heap.size ∧ N ad.block := fun h1 ad e => by
      refine ⟨?_, HNN.out i b off l[i] A1 c1 (List.getElem?_eq_getElem hil) hAe d1 h1 ad e⟩
      obtain ⟨b', o', e', h', _⟩ := Bytes.at_ hp.k (by omega)
      rw [e] at e'; injection e' with e'; subst e'; exact h'
    generalize l[i] = p at d1 d2 d3 hp hxs hxa hxm hal
    have hr1 := rangeAt_below (range3 d1 d2 d3) hB
    have hp1 := hp.below hB
    have HX := Lib.hid (And.intro hall (And.intro hS (And.intro hB (And.intro hp1 hal))))
    subst hAe
    clear hall hS hB hp1 hal hc d1 d2 d3 hp hbl
    go_wp2_with (first
      | ((with_reducible show wpList _ _ _ ((⟨some 29, _, _, _, _, _⟩ : Oper) :: _) _ _); refine wpList_load_mid (o := ⟨some 29, _, _, _, _, _⟩) hr1 (by rfl) _ _ (by rfl) (by rfl) _ Tryd.underlying40 (by rfl) sizePair (by rfl) ?_)
      | ((with_reducible show wpList _ _ _ ((⟨none, _, _, _, _, _⟩ : Oper) :: _) _ _); refine wpList_store_blk (o := ⟨none, _, _, _, _, _⟩) ((Blk.new wr 40 #[.slice none 0 0, .slice none 0 0, .bool false])) (by rfl) _ _ _ (by rfl) (by rfl) (pairc p A1 c1 A2 c2) (by rfl) (sizePair) (by rfl) (by rfl) (by simp [pairc, Value.oneCell']) ?_; intro w3 h3 hu3; have hb3 := ((Below.refl wr.heap.size wr).alloc (Nat.le_refl _) (.cells #[.slice none 0 0, .slice none 0 0, .bool false] 40)).upd hu3 (Nat.le_refl _); have H3 := Lib.hid (And.intro hb3 h3); clear hu3 hb3)
      | ((with_reducible show wpList _ _ _ ((⟨some 30, _, _, _, _, _⟩ : Oper) :: _) _ _); refine wpList_load_blk (o := ⟨some 30, _, _, _, _, _⟩) (h3) (by rfl) _ _ (by rfl) (by rfl) _ Tryd.underlying40 (by rfl) (sizePair) (by rfl) ?_)
      | fail)
    refine (pcheck_any p A1 A2 c1 c2 w3).mono ?_
    rintro e w4 ⟨rfl, hbx⟩
    have hb4 := H3.out.1.trans (hbx.mono H3.out.1.size)
    have HB4 := Lib.hid (And.intro (HX.out.2.1.below hb4) (And.intro (HX.out.2.2.1.trans (hb4.mono HX.out.2.2.1.size)) (And.intro (HX.out.2.2.2.1.below hb4) (H3.out.2.below hbx H3.out.2.lt))))
    clear hbx hb4 h3 H3 hr1
    cases hpk : pok p
    case false =>
      have HF := Lib.hid (PackTold.no (N := N) (w := w) (w' := w4) (show ppack l = (2, []) by
        have ha : l.all pok = false := by
          cases ha : l.all pok
          · rfl
          · rw [List.all_eq_true.1 ha p hxm.out] at hpk; cases hpk
        unfold ppack
        rw [if_pos (.inr (.inr (.inr ha)))]) HB4.out.2.1)
      have kE : pokE p = 2 := by unfold pokE; rw [hpk]; rfl
      rw [kE]
      clear kE hpk
      go_wp2_with fail
      refine bodyPost_ret (results_tmp3 rfl _ _ _) rfl ?_
      exact HF.out
    case true =>
      have kE : pokE p = 0 := by unfold pokE; rw [hpk]; rfl
      rw [kE]
      have h9 := HB4.out.2.2.2
      have HK := Lib.hid hpk
      clear kE hpk
      go_wp2_with (first
        | ((with_reducible show wpList _ _ _ ((⟨some 34, _, _, _, _, _⟩ : Oper) :: _) _ _); refine wpList_load_blk (o := ⟨some 34, _, _, _, _, _⟩) (h9) (by rfl) _ _ (by rfl) (by rfl) _ Tryd.underlying40 (by rfl) (sizePair) (by rfl) ?_)
        | fail)
      refine (padd_any w.heap.size b5 (b5 + 1) (pgroups (l.take i)) p A1 A2 c1 c2 w4 HK.out HB4.out.2.2.1 (HX.out.2.2.2.2 (pok_spec HK.out).1) (by omega) H1.out.2.1 (Nat.le_succ_of_le H1.out.2.1) (Nat.le_trans (pgroups_few HX.out.1 (by rw [List.length_take]; omega)) (by omega)) (by rw [(pgroups_ok HX.out.1).flat]; exact pgroups_ok HX.out.1) HB4.out.1 HB4.out.2.1.size).mono ?_
      rintro e w5 ⟨rfl, hS5, hB5⟩
      have HF := Lib.hid (show PkRel N w b5 l (.int .i64 ((i + 1 : Nat) : Int)) w5 from ⟨i + 1, hil, rfl, by rw [hxa.out]; exact HK.out, by rw [hxs.out]; exact hS5, HB4.out.2.1.trans hB5⟩)
      clear hS5 hB5 h9
      go_wp2_with fail
      go_roundw
      case rel => exact HF.out
      case measure => exact meas_up (i := i) (m := n) rfl rfl hlt
end Go.Proofs.YtgkljncigbiffaaDoor

/- So many bytes are taken off the front of a list: Unpack's inner function; pairs in memory of their own. Conditions: as each says. -/
namespace Go.Proofs.YtgkljncigbiffaaDoor
open Go.RowKit
/-- A box that holds a slice of bytes that can be read. -/
structure Rest (w : World) (bx : Nat) (s : List UInt8) (A : Option Addr) (c : Nat) : Prop where
  box : Blk w bx 22 #[.slice A s.length c]
  rd : Bytes w A s
  low : s ≠ [] → ∀ ad, A = some ad → ad.block ≠ bx
  hc : s.length ≤ c
  hm : c ≤ 9223372036854775807
theorem near_bytes {w w' : World} {A : Option Addr} {s : List UInt8} {X : List Nat} (h : Bytes w A s) (k : Near X w w') (h2 : s ≠ [] → ∀ ad, A = some ad → ad.block ∉ X) : Bytes w' A s := by
  by_cases e : s = []
  · subst e; exact Reads.nil _ _
  · exact Bytes.near h k (h2 e)
theorem Rest.near {w w' : World} {bx : Nat} {s : List UInt8} {A : Option Addr} {c : Nat} {X : List Nat} (h : Rest w bx s A c) (k : Near X w w') (h1 : bx ∉ X) (h2 : s ≠ [] → ∀ ad, A = some ad → ad.block ∉ X) : Rest w' bx s A c :=
  ⟨h.box.near k h1, near_bytes h.rd k h2, h.low, h.hc, h.hm⟩
theorem Rest.below {w w' : World} {bx : Nat} {s : List UInt8} {A : Option Addr} {c : Nat} (h : Rest w bx s A c) (k : Below w.heap.size w w') : Rest w' bx s A c := h.near (X := []) (Near.below k) (by simp) (by simp)
def tookB (s : List UInt8) (n : Nat) : List UInt8 := if s.length < n then [] else s.take n
def leftB (s : List UInt8) (n : Nat) : List UInt8 := if s.length < n then s else s.drop n
set_option maxRecDepth 100000 in
set_option maxHeartbeats 4000000 in
theorem take_any (n bx : Nat) (s : List UInt8) (A : Option Addr) (c : Nat) (w : World) (hn : n < 256) (h : Rest w bx s A c) :
    Calls Tryd.prog 134 #[.int .i64 (n : Int), .pointer (some ⟨bx, 0, none⟩)] w fun e w' => ∃ (v : Value) (sp : List UInt8) (A' : Option Addr) (c' : Nat), e = .returned v ∧ OwnB 5 w' w.heap.size v (tookB s n) sp ∧ Rest w' bx (leftB s n) A' c' ∧ (∀ ad, A' = some ad → ∃ ad0, A = some ad0 ∧ ad0.block = ad.block) ∧ Near [bx] w w' := by
  have d1 := h.box.at_ 0 (v := .slice A s.length c) rfl
  have f1 := h.box.frozen 0
  have HH := Lib.hid h
  go_enter Tryd.func134, Tryd.ntmps134
  by_cases hlt : s.length < n
  · have k1 : decide ((n : Int) > (s.length : Int)) = true := decide_eq_true (by omega)
    have k2 : decide (s.length < n) = true := decide_eq_true hlt
    have HT := Lib.hid (And.intro (show tookB s n = [] from if_pos hlt) (show leftB s n = s from if_pos hlt))
    clear h hlt f1
    go_wp2_with fail
    go_ret
    refine ⟨.slice none 0 0, [], A, c, rfl, by rw [HT.out.1]; exact OwnsC.nil _ _ _ _, by rw [HT.out.2]; exact HH.out, fun ad e => ⟨ad, e, rfl⟩, Near.refl _ _⟩
  have k1 : decide ((n : Int) > (s.length : Int)) = false := decide_eq_false (by omega)
  have k2 : decide (s.length < n) = false := decide_eq_false hlt
  have HT := Lib.hid (And.intro (show tookB s n = s.take n from if_neg hlt) (And.intro (show leftB s n = s.drop n from if_neg hlt) (show n ≤ s.length by omega)))
  have hnc : n ≤ c := Nat.le_trans HT.out.2.2 h.hc
  clear h hlt
  have hcut : Bytes w A s := HH.out.rd
  have HC := Lib.hid hcut
  clear hcut
  go_wp2_with (first
    | ((with_reducible show wpList _ _ _ ((⟨some 14, _, _, _, _, _⟩ : Oper) :: _) _ _); refine wpList_cut_bytes (o := ⟨some 14, _, _, _, _, _⟩) (by rfl) _ _ _ (by rfl) _ Tryd.underlying22 size1 (A) (s.length) (c) .i64 (n) (by rfl) (by rfl) (s) (rfl) (HT.out.2.2) (HH.out.hc) (HC.out) ?_; intro A2 h2 _; rename_i hA2; have hu1 : Near [bx] w (w.setCell ⟨bx, 0, none⟩ (.slice A2 (s.length - n) (c - n))) := near_set (Near.refl _ w) (by simp) _ _; have H2 := Lib.hid (And.intro h2 (And.intro hA2 hu1)); clear h2 hA2 hu1; refine stopped ?_)
    | fail)
  refine Stopped.mk ?_
  have hR : Rest (w.setCell ⟨bx, 0, none⟩ (.slice A2 (s.length - n) (c - n))) bx (s.drop n) A2 (c - n) := by
    have hl : s.drop n ≠ [] → ∀ ad, A2 = some ad → ad.block ≠ bx := fun hne ad e => by obtain ⟨ad0, e0, e1⟩ := H2.out.2.1 ad e; rw [← e1]; exact HH.out.low (fun e => hne (by rw [e, List.drop_nil])) ad0 e0
    refine ⟨?_, near_bytes H2.out.1 H2.out.2.2 (fun hne ad e hm => hl hne ad e (List.mem_singleton.1 hm)), hl, by rw [List.length_drop]; have := HH.out.hc; omega, by have := HH.out.hm; omega⟩
    rw [List.length_drop]
    exact HH.out.box.set_ 0 _
  have hb1 : Bytes (w.setCell ⟨bx, 0, none⟩ (.slice A2 (s.length - n) (c - n))) A (s.take n) := (near_bytes HH.out.rd H2.out.2.2 (fun hne ad e hm => HH.out.low hne ad e (List.mem_singleton.1 hm))).take n
  have H3 := Lib.hid (And.intro hR (And.intro hb1 (show n = (s.take n).length by rw [List.length_take]; have := HT.out.2.2; omega)))
  have hsz1 : w.heap.size ≤ (w.setCell ⟨bx, 0, none⟩ (.slice A2 (s.length - n) (c - n))).heap.size := H2.out.2.2.size
  clear hR hb1
  go_wp2_with (first
    | ((with_reducible show wpList _ _ _ ((⟨some 16, _, _, _, _, _⟩ : Oper) :: _) _ _); refine wpList_append_bytes (o := ⟨some 16, _, _, _, _, _⟩) (by rfl) _ _ _ (by rfl) w.heap.size 5 Tryd.underlying22 u8info (.slice none 0 0) [] [] (by rfl) (OwnsC.nil _ _ _ _) A c (s.take n) (by rw [← H3.out.2.2]; rfl) H3.out.2.1 (by rw [← H3.out.2.2]; first|omega|(simp; omega)) hsz1 ?_; intro v3 w3 sp3 ho3 hg3 hv3 hn3; refine stopped ?_)
    | fail)
  refine Stopped.mk ?_
  have hn3' : Near [] _ w3 := Near.grown hg3 (fun x hx => (by cases hx))
  have HF := Lib.hid (And.intro ho3 (And.intro (H3.out.1.near hn3' (by simp) (by simp)) (H2.out.2.2.trans (hn3'.wider (by simp)))))
  clear ho3 hg3 hv3 hn3 hn3'
  go_wp2_with fail
  go_ret
  exact ⟨v3, sp3, A2, c - n, rfl, by rw [HT.out.1]; exact HF.out.1, by rw [HT.out.2.1]; exact HF.out.2.1, H2.out.2.1, HF.out.2.2⟩
end Go.Proofs.YtgkljncigbiffaaDoor
