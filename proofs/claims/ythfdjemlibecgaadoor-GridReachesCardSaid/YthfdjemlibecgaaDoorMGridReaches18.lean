/- Which refs are not there: the grid's Reach. Conditions: the grid is known. -/
import Derived.Test.YthfdjemlibecgaaDoorMGridReaches17
namespace Go.Proofs.YthfdjemlibecgaaDoor
open Go.RowKit
attribute [local go_sem] Oper.semAt_some
theorem OwnsC.keptW {e : TypeId} {size base n B : Nat} {w w' : World} {v : Value} {xs sp : List Value} (h : OwnsC e size w base v n xs sp) (k : Kept B w w') : OwnsC e size w' base v n xs sp := by
  rcases h with h | ⟨g, cap, rfl, hb, hgg, rest⟩
  · exact .inl h
  · exact .inr ⟨g, cap, rfl, hb, hgg.keptW k, rest⟩
theorem GridR.keptW {w w' : World} {q : GPl} {g : Grd} {d : Dsk} {f : Option Fus} {B : Nat} (h : GridR w q g d f) (k : Kept B w w') (h1 : q.p.gm < B) (h2 : q.gi < B) : GridR w' q g d f := by
  obtain ⟨wv, sp, k1, k2, k3⟩ := h.wn
  exact ⟨h.dk.keptW k h1, h.st.keptW k, h.mp.keptW k h2, ⟨wv, sp, k1, k2.keptW k, OwnsC.keptW k3 k⟩, h.ok, h.ne⟩
theorem ownOf {e : TypeId} {size base n : Nat} {w : World} {ad : Addr} {c : Nat} {xs sp : List Value} (h : OwnsC e size w base (.slice (some ad) n c) n xs sp) : (Value.slice (some ad) n c).ownBlock = some ad.block := by
  rcases h with ⟨h, _⟩ | ⟨g, cap, h, -⟩
  · cases h
  · injection h with h1 h2 h3
    injection h1 with h1
    subst h1; rfl
/-- What Reach leaves: the grid, and where its answer lies. -/
def RPost (w : World) (q : GPl) (A : Option Addr) (g : Grd) (d : Dsk) (f : Option Fus) (w' : World) : Prop :=
  ∃ q' : GPl, q'.gg = q.gg ∧ q'.p = q.p ∧ q'.gf = q.gf ∧ GridR w' q' g d f ∧ Near q.all w w' ∧ (∀ x ∈ q'.all, x ∈ q.all ∨ w.heap.size ≤ x) ∧ ∀ ad, A = some ad → w.heap.size ≤ ad.block ∧ ad.block ∉ q'.all
def gitem (g : Grd) (d : Dsk) (root : RefT) (i : Nat) : RefT := (gwalk g d root)[i]?.getD (0, 0, ())
/-- What stands when some refs have been told. -/
structure RhIn (w : World) (S : Nat) (q : GPl) (g : Grd) (d : Dsk) (f : Option Fus) (root : RefT) (M L : List RefT) (Q : GPl) (ov : Value) (sp : List Value) (W : World) : Prop where
  sz : w.heap.size + 2 ≤ S
  b0 : Blk W w.heap.size 25 #[.pointer (some ⟨q.gg, 0, none⟩)]
  b2 : Blk W S 29 #[ov]
  b3 : Blk W (S + 1) 25 #[.pointer (some ⟨q.gg, 0, none⟩)]
  b4 : Blk W (S + 2) 23 #[.int .i64 root.1, .int .i64 root.2.1]
  eg : Q.gg = q.gg ∧ Q.p = q.p ∧ Q.gf = q.gf ∧ Q.gi = q.gi ∧ Q.gs = q.gs
  gr : GridR W Q (g.wants M) d f
  near : Near q.all w W
  new : ∀ x ∈ Q.all, x ∈ q.all ∨ S + 3 ≤ x
  own : OwnsC 23 2 W (S + 3) ov L.length (refCells L) sp
  off : ∀ x, ov.ownBlock = some x → x ∉ Q.all
def RhAt (w : World) (S : Nat) (q : GPl) (g : Grd) (d : Dsk) (f : Option Fus) (root : RefT) (k : Nat) (X : List Nat) (W : World) : Prop :=
  ∃ Q ov sp, RhIn w S q g d f root (gsome g d root k) (gsome g d root k) Q ov sp W ∧ X = Q.gw.toList ++ ov.ownBlock.toList
section
variable {w W W' : World} {q Q : GPl} {g : Grd} {d : Dsk} {f : Option Fus} {root : RefT} {M L : List RefT} {ov : Value} {sp : List Value} {S : Nat}
theorem RhIn.keptW {B : Nat} (h : RhIn w S q g d f root M L Q ov sp W) (k : Kept B W W') (hB : S + 3 ≤ B) (hlt : ∀ x ∈ q.all, x < w.heap.size) : RhIn w S q g d f root M L Q ov sp W' := by
  have h0 := h.sz
  have h1 : Q.p.gm < B := by rw [h.eg.2.1]; have := hlt q.p.gm (GPl.mem.2 (by simp [Pl.all])); omega
  have h2 : Q.gi < B := by rw [h.eg.2.2.2.1]; have := hlt q.gi (GPl.mem.2 (by simp)); omega
  exact ⟨h.sz, h.b0.keptW k, h.b2.keptW k, h.b3.keptW k, h.b4.keptW k, h.eg, h.gr.keptW k h1 h2, h.near.keptW k (by omega), h.new, OwnsC.keptW h.own k, h.off⟩
theorem RhIn.below (h : RhIn w S q g d f root M L Q ov sp W) (k : Below W.heap.size W W') : RhIn w S q g d f root M L Q ov sp W' :=
  ⟨h.sz, h.b0.below k h.b0.lt, h.b2.below k h.b2.lt, h.b3.below k h.b3.lt, h.b4.below k h.b4.lt, h.eg, h.gr.below k, h.near.trans (Near.below k), h.new, h.own.ownBelow k, h.off⟩
theorem RhIn.lt (h : RhIn w S q g d f root M L Q ov sp W) : ∀ x ∈ Q.gw.toList ++ ov.ownBlock.toList, x < W.heap.size := fun x hx => by
  rcases List.mem_append.1 hx with hx | hx
  · exact h.gr.lt x (GPl.mem.2 (.inr (.inr (.inr (.inl (Option.mem_toList.1 hx))))))
  · exact (OwnsC.lt h.own x (Option.mem_toList.1 hx)).2
theorem RhIn.at_ (h : RhIn w S q g d f root M L Q ov sp W) (ho : d.isOut f = false) : GAt q.gg (S + 1) g d W ∧ Blk W (S + 2) 23 #[.int .i64 root.1, .int .i64 root.2.1] :=
  ⟨⟨h.b3, Q, _, f, h.gr, h.eg.1, Grd.wants_n M g, ho⟩, h.b4⟩
theorem RhIn.offQ (h : RhIn w S q g d f root M L Q ov sp W) (hlt : ∀ x ∈ q.all, x < w.heap.size) {x : Nat} (h1 : w.heap.size ≤ x) (h2 : x < S + 3) : x ∉ Q.all := fun hm => (h.new x hm).elim (fun k => by have := hlt x k; omega) fun k => by omega
theorem gw_grown {Q' : GPl} {B : Nat} (ap : GApart Q') (eg : Q'.gg = Q.gg ∧ Q'.p = Q.p ∧ Q'.gf = Q.gf ∧ Q'.gi = Q.gi ∧ Q'.gs = Q.gs) (hn : ∀ x ∈ Q'.all, x ∈ Q.all ∨ B ≤ x) : ∀ x, Q'.gw = some x → Q.gw = some x ∨ B ≤ x := fun x hx => by
  rcases hn x (GPl.mem.2 (.inr (.inr (.inr (.inl hx))))) with h | h
  · obtain ⟨k1, k2, k3⟩ := ap.wo x hx
    have k4 := ap.w x hx
    rcases GPl.mem.1 h with e | e | e | e | e
    · exact absurd (e.trans eg.1.symm) k1
    · exact absurd (e.trans eg.2.2.2.2.symm) k2
    · exact absurd (e.trans eg.2.2.2.1.symm) k3
    · exact .inl e
    · rw [← eg.2.1, ← eg.2.2.1] at e; exact absurd e k4
  · exact .inr h
/-- The list of what is told has grown by one. -/
theorem RhIn.told {W4 : World} {Q : GPl} {ov v4 : Value} {sp4 : List Value} {r : RefT} (h : RhIn w S q g d f root M L Q ov sp W) (k : Near ov.ownBlock.toList W W4) (ho : OwnsC 23 2 W4 (S + 3) v4 (L ++ [r]).length (refCells (L ++ [r])) sp4) (hv : v4.ownBlock = ov.ownBlock ∨ ∃ x, v4.ownBlock = some x ∧ W.heap.size ≤ x) (hlt : ∀ x ∈ q.all, x < w.heap.size) :
    RhIn w S q g d f root M (L ++ [r]) Q v4 sp4 (W4.setCell ⟨S, 0, none⟩ v4) := by
  have hu : Near [S] W4 (W4.setCell ⟨S, 0, none⟩ v4) := Near.upd ((Upd.refl _ _).set 0 _) (List.mem_singleton_self _)
  have hob : ∀ x, ov.ownBlock = some x → S + 3 ≤ x ∧ x < W.heap.size := OwnsC.lt h.own
  have hn : ∀ x, x < S + 3 → x ∉ ov.ownBlock.toList := fun x hx hm => by have := (hob x (Option.mem_toList.1 hm)).1; omega
  have hvb : ∀ x, v4.ownBlock = some x → S + 3 ≤ x := fun x hx => (OwnsC.lt ho x hx).1
  have hQ : ∀ x ∈ Q.all, x ∉ ov.ownBlock.toList := fun x hx hm => h.off x (Option.mem_toList.1 hm) hx
  have hQS : ∀ x ∈ Q.all, x ∉ [S] := fun x hx hm => by rw [List.mem_singleton.1 hm] at hx; exact h.offQ hlt (by have := h.sz; omega) (by omega) hx
  have hsz := h.sz
  have ne : ∀ x, x ≠ S → x ∉ [S] := fun x hx hm => hx (List.mem_singleton.1 hm)
  refine ⟨h.sz, (h.b0.near k (hn _ (by omega))).near hu (ne _ (by omega)), ((h.b2.near k (hn _ (by omega))).set_ 0 v4).sub (by simp), (h.b3.near k (hn _ (by omega))).near hu (ne _ (by omega)), (h.b4.near k (hn _ (by omega))).near hu (ne _ (by omega)), h.eg, (h.gr.near k hQ).near hu hQS, ?_, h.new, OwnsC.nearO ho hu (fun x hx => ne _ (by have := hvb x hx; omega)), fun x hx => ?_⟩
  · exact (h.near.high k (fun x hx => by have := (hob x (Option.mem_toList.1 hx)).1; omega)).high hu (fun x hx => by rw [List.mem_singleton.1 hx]; omega)
  · rcases hv with e | ⟨y, e, hy⟩
    · exact h.off x (e.symm.trans hx)
    · rw [hx] at e; injection e with e
      subst e
      exact fun hm => by have := h.gr.lt x hm; omega
theorem RhIn.grid {M' : List RefT} (h : RhIn w S q g d f root M L Q ov sp W) (e : g.wants M' = g.wants M) : RhIn w S q g d f root M' L Q ov sp W :=
  ⟨h.sz, h.b0, h.b2, h.b3, h.b4, h.eg, by rw [e]; exact h.gr, h.near, h.new, h.own, h.off⟩
/-- One more is wanted. -/
theorem RhIn.wanted {M' : List RefT} {Q' : GPl} {r : RefT} (h : RhIn w S q g d f root M L Q ov sp W) (e : g.wants M' = (g.wants M).want r) (hlt : ∀ x ∈ q.all, x < w.heap.size)
    (eg : Q'.gg = Q.gg ∧ Q'.p = Q.p ∧ Q'.gf = Q.gf ∧ Q'.gi = Q.gi ∧ Q'.gs = Q.gs) (hG : GridR W' Q' ((g.wants M).want r) d f) (k : Near Q.all W W') (hn : ∀ x ∈ Q'.all, x ∈ Q.all ∨ W.heap.size ≤ x) : RhIn w S q g d f root M' L Q' ov sp W' := by
  have hsz := h.sz
  have hs4 := h.b4.lt
  have off : ∀ x, w.heap.size ≤ x → x < S + 3 → x ∉ Q.all := fun x h1 h2 => h.offQ hlt h1 h2
  refine ⟨h.sz, h.b0.near k (off _ (by omega) (by omega)), h.b2.near k (off _ (by omega) (by omega)), h.b3.near k (off _ (by omega) (by omega)), h.b4.near k (off _ (by omega) (by omega)), ⟨eg.1.trans h.eg.1, eg.2.1.trans h.eg.2.1, eg.2.2.1.trans h.eg.2.2.1, eg.2.2.2.1.trans h.eg.2.2.2.1, eg.2.2.2.2.trans h.eg.2.2.2.2⟩, by rw [e]; exact hG, Near.mix h.near k (fun y hy => (h.new y hy).imp id fun h => by omega), fun x hx => ?_, OwnsC.nearO h.own k h.off, fun x hx hm => ?_⟩
  · rcases hn x hx with h1 | h1
    · exact h.new x h1
    · exact .inr (by omega)
  · rcases hn x hm with h1 | h1
    · exact h.off x hx h1
    · have := (OwnsC.lt h.own x hx).2; omega
/-- What the body may write: the list's block and the lists' own. -/
theorem RhIn.low (h : RhIn w S q g d f root M L Q ov sp W) (hlt : ∀ x ∈ q.all, x < w.heap.size) : ∀ x ∈ Q.all, x < S + 3 ∨ x ∈ Q.gw.toList ++ ov.ownBlock.toList := fun x hx => by
  have h0 := h.sz
  have key : ∀ y ∈ q.all, y < S + 3 := fun y hy => by have := hlt y hy; omega
  rcases GPl.mem.1 hx with e | e | e | e | e
  · rw [e, h.eg.1]; exact .inl (key _ (GPl.mem.2 (by simp)))
  · rw [e, h.eg.2.2.2.2]; exact .inl (key _ (GPl.mem.2 (by simp)))
  · rw [e, h.eg.2.2.2.1]; exact .inl (key _ (GPl.mem.2 (by simp)))
  · exact .inr (by rw [e]; simp)
  · rw [h.eg.2.1, h.eg.2.2.1] at e
    exact .inl (key _ (GPl.mem.2 (.inr (.inr (.inr (.inr e))))))
end
set_option maxRecDepth 100000 in
set_option maxHeartbeats 8000000 in
theorem greach_any {w : World} {q : GPl} {g : Grd} {d : Dsk} {f : Option Fus} (h : GridR w q g d f) (hlen : g.W.length ≤ 1000000000) (root : RefT) :
    Calls Tryd.prog 43 #[.pointer (some ⟨q.gg, 0, none⟩), .agg #[.int .i64 root.1, .int .i64 root.2.1]] w fun e w' =>
      ∃ A c, e = .returned (.tuple #[.slice A (greach g d f root).2.1.length c, .int .i64 (greach g d f root).1]) ∧ Refs w' A (greach g d f root).2.1 ∧ (greach g d f root).2.1.length ≤ c ∧ c ≤ 9223372036854775807 ∧ RPost w q A (greach g d f root).2.2 d f w' := by
  have hB := ((Below.refl w.heap.size w).alloc (Nat.le_refl _) (.cells #[.pointer (some ⟨q.gg, 0, none⟩)] 25)).alloc (by simp) (.cells #[.int .i64 root.1, .int .i64 root.2.1] 23)
  have hb0 := (Blk.new w 25 #[.pointer (some ⟨q.gg, 0, none⟩)]).alloc (.cells #[.int .i64 root.1, .int .i64 root.2.1] 23)
  have hb1 := Blk.new' (w.alloc (.cells #[.pointer (some ⟨q.gg, 0, none⟩)] 25)) 23 #[.int .i64 root.1, .int .i64 root.2.1] (n := w.heap.size + 1) (by simp)
  have hz2 : ((w.alloc (.cells #[.pointer (some ⟨q.gg, 0, none⟩)] 25)).alloc (.cells #[.int .i64 root.1, .int .i64 root.2.1] 23)).heap.size = w.heap.size + 2 := by simp
  have H0 := Lib.hid (And.intro h (And.intro hlen (And.intro hB (And.intro hb0 (And.intro hb1 (And.intro h.lt (And.intro h.ok.h512 hz2)))))))
  clear h hlen hB hb0 hb1 hz2
  refine callsIn_wide (n := 3).1 ?_
  refine callsIn_of_wp_marks Tryd.func43 rfl trivial ?_ rfl
  simp only [Tryd.ntmps43, List.size_toArray, List.length_cons, List.length_nil, Nat.reduceAdd, Nat.reduceSub, Array.replicate_succ, Array.replicate_zero, List.push_toArray, List.append_toArray, List.nil_append, List.cons_append]
  refine wpIn_wide.2 ?_
  go_wp2_with fail
  generalize ((w.alloc (.cells #[.pointer (some ⟨q.gg, 0, none⟩)] 25)).alloc (.cells #[.int .i64 root.1, .int .i64 root.2.1] 23)) = w2 at H0 ⊢
  have hG2 := H0.out.1.below H0.out.2.2.1
  have d0 := H0.out.2.2.2.1.at_ 0 (v := .pointer (some ⟨q.gg, 0, none⟩)) rfl
  have hbr := H0.out.2.2.2.2.1
  refine (gready_any hG2).mono ?_
  rintro e w2' ⟨rfl, hw⟩
  obtain rfl := hw.symm
  clear hw
  by_cases hq : d.isOut f = true
  · have HL : Hid (greach g d f root = (11, [], g)) := Lib.hid (if_pos hq)
    rw [if_pos hq]
    clear hq hG2 d0 hbr
    go_wp2
    refine ⟨_, results_tmp2 (by rfl) _ _ _, ?_⟩
    rw [HL.out]
    exact ⟨none, 0, rfl, fun h => absurd h (by simp), Nat.le_refl _, by omega, q, rfl, rfl, rfl, H0.out.1.below H0.out.2.2.1, Near.below H0.out.2.2.1, fun _ hx => .inl hx, fun ad e => by cases e⟩
  rw [if_neg hq]
  have HQ := Lib.hid (show d.isOut f = false by simpa using hq)
  clear hq
  go_wp2_with (first
    | ((with_reducible show wpList _ _ _ ((⟨some 16, _, _, _, _, _⟩ : Oper) :: _) _ _); refine wpList_load_blk (o := ⟨some 16, _, _, _, _, _⟩) (hbr) (by rfl) _ _ (by rfl) (by rfl) _ Tryd.underlying23 (by rfl) (size_ref) (by rfl) ?_)
    | fail)
  refine (gof_any hG2 root).mono ?_
  rintro e w3 ⟨rfl, hbx⟩
  have hB3 := H0.out.2.2.1.trans (hbx.mono H0.out.2.2.1.size)
  have hb0 := H0.out.2.2.2.1.below hbx H0.out.2.2.2.1.lt
  have hb1 := H0.out.2.2.2.2.1.below hbx H0.out.2.2.2.2.1.lt
  have hsz3 := hbx.size
  have H3 := Lib.hid (And.intro hB3 (And.intro hb0 (And.intro hb1 hsz3)))
  clear hbx hbr hB3 hG2 hb0 hb1 d0 hsz3
  by_cases ho : g.of root = true
  case neg =>
    have ho' : g.of root = false := by simpa using ho
    have HL : Hid (greach g d f root = (2, [], g)) := Lib.hid (by unfold greach; rw [if_neg (by rw [HQ.out]; simp), if_pos ho'])
    rw [ho']
    clear ho ho'
    go_wp2
    refine ⟨_, results_tmp2 (by rfl) _ _ _, ?_⟩
    rw [HL.out]
    exact ⟨none, 0, rfl, fun h => absurd h (by simp), Nat.le_refl _, by omega, q, rfl, rfl, rfl, H0.out.1.below H3.out.1, Near.below H3.out.1, fun _ hx => .inl hx, fun ad e => by cases e⟩
  have HL : Hid (greach g d f root = (0, gmiss g d root, g.wants (gmiss g d root))) := Lib.hid (by unfold greach; rw [if_neg (by rw [HQ.out]; simp), if_neg (by rw [ho]; simp)])
  rw [ho]
  clear ho
  have hbl4 := (Below.refl w3.heap.size w3).alloc (Nat.le_refl _) (.cells #[.slice none 0 0] 29)
  have hbr := H3.out.2.2.1.below hbl4 H3.out.2.2.1.lt
  have d0 := (H3.out.2.1.below hbl4 H3.out.2.1.lt).at_ 0 (v := .pointer (some ⟨q.gg, 0, none⟩)) rfl
  clear hbl4
  go_wp2_with (first
    | ((with_reducible show wpList _ _ _ ((⟨some 20, _, _, _, _, _⟩ : Oper) :: _) _ _); refine wpList_load_blk (o := ⟨some 20, _, _, _, _, _⟩) (hbr) (by rfl) _ _ (by rfl) (by rfl) _ Tryd.underlying23 (by rfl) (size_ref) (by rfl) ?_)
    | fail)
  refine (reached_any q.gg root _).mono ?_
  rintro e w6 ⟨rfl, rfl⟩
  have eb : (w3.alloc (.cells #[.slice none 0 0] 29)).heap.size = w3.heap.size + 1 := by simp
  have hsz := H0.out.2.2.2.2.2.2.2
  have h6b := (((Below.refl w3.heap.size w3).alloc (Nat.le_refl _) (.cells #[.slice none 0 0] 29)).alloc (by simp) (.cells #[.pointer (some ⟨q.gg, 0, none⟩)] 25)).alloc (by simp; omega) (.cells #[.int .i64 root.1, .int .i64 root.2.1] 23)
  have hS : RhIn w w3.heap.size q g d f root [] [] q (.slice none 0 0) [] (((w3.alloc (.cells #[.slice none 0 0] 29)).alloc (.cells #[.pointer (some ⟨q.gg, 0, none⟩)] 25)).alloc (.cells #[.int .i64 root.1, .int .i64 root.2.1] 23)) :=
    ⟨by have := H3.out.2.2.2; omega, H3.out.2.1.below h6b H3.out.2.1.lt, ((Blk.new w3 _ _).alloc _).alloc _, (Blk.new' _ _ _ (by simp)).alloc _, Blk.new' _ _ _ (by simp), ⟨rfl, rfl, rfl, rfl, rfl⟩, (H0.out.1.below H3.out.1).below h6b, Near.below (H3.out.1.trans (h6b.mono H3.out.1.size)), fun _ hx => .inl hx, OwnsC.nil _ _ _ _, fun _ e => by cases e⟩
  have hz6 : (((w3.alloc (.cells #[.slice none 0 0] 29)).alloc (.cells #[.pointer (some ⟨q.gg, 0, none⟩)] 25)).alloc (.cells #[.int .i64 root.1, .int .i64 root.2.1] 23)).heap.size = w3.heap.size + 3 := by simp
  rw [eb]
  simp only [show w3.heap.size + 1 + 1 = w3.heap.size + 2 from rfl]
  generalize (((w3.alloc (.cells #[.slice none 0 0] 29)).alloc (.cells #[.pointer (some ⟨q.gg, 0, none⟩)] 25)).alloc (.cells #[.int .i64 root.1, .int .i64 root.2.1] 23)) = w6 at hS hz6 ⊢
  generalize w3.heap.size = S at hS hz6 ⊢
  have H6 := Lib.hid (And.intro hS hz6)
  have HA := Lib.hid (And.intro H0.out.1 (And.intro H0.out.2.1 (And.intro H0.out.2.2.2.2.2.1 H0.out.2.2.2.2.2.2.1)))
  clear hS hz6 eb h6b hsz hbr d0 H3 H0
  go_wp2_with fail
  refine wpIn_wide (n := 3).1 ?_
  refine wpIn_rangeRowY rfl (by omega) (gf := 144) (lb := #[.pointer (some ⟨S + 1, 0, none⟩), .pointer (some ⟨S + 2, 0, none⟩)]) rfl trivial (enters_of Tryd.func144 (by kernel_rfl) rfl)
    (encR g d (gitem g d root)) (fun _ => rfl) (gwalk g d root).length (fun k X W => RhAt w S q g d f root k X W) (fun _ _ => False)
    (fun k X W h => ?hIX) (fun k X W W' h kw => ?hI) (fun _ _ _ h _ => h) ⟨q, .slice none 0 0, [], H6.out.1, rfl⟩ ?row ?round ?done (fun _ _ _ _ h => h.elim)
  case hIX =>
    obtain ⟨Q, ov, sp, h1, rfl⟩ := h
    exact h1.lt
  case hI =>
    obtain ⟨Q, ov, sp, h1, h2⟩ := h
    exact ⟨Q, ov, sp, h1.keptW kw (by rw [H6.out.2]; exact Nat.le_refl _) HA.out.2.2.1, h2⟩
  case row =>
    refine reached_row 2 (by omega) q.gg (S + 1) (S + 2) g d root _ (fun i x hx => by unfold gitem; rw [hx]; rfl) _ fun k X W h => ?_
    obtain ⟨Q, ov, sp, h1, h2⟩ := h
    exact h1.at_ HQ.out
  case round =>
    intro l k X W hl1 hl2 hI hk
    obtain ⟨Q, ov, sp, h1, rfl⟩ := hI
    have hs := gsome_succ hk
    have hle := gsome_len g d root k
    unfold encR
    rw [show gitem g d root k = (gwalk g d root)[k] by unfold gitem; rw [List.getElem?_eq_getElem hk]; rfl]
    generalize (gwalk g d root)[k] = r at hs ⊢
    have hzr := zeroRefrun
    have HI := Lib.hid (And.intro h1 (And.intro hle hs))
    clear h1 hle hs hk
    cases hgk : gok g d r
    case true =>
      rw [hgk, if_pos rfl] at HI
      gi_wp2_with (first
        | ((with_reducible show wpListIn _ _ _ _ _ ((⟨none, _, _, _, _, _⟩ : Oper) :: _) _ _); refine wpListIn_of (by rfl) ?_; refine wpList_store_blk (o := ⟨none, _, _, _, _, _⟩) ((Blk.new W 23 #[.int .i64 0, .int .i64 0])) (by rfl) _ _ _ (by rfl) (by rfl) (#[.int .i64 r.1, .int .i64 r.2.1]) (by rfl) (size_ref) (by rfl) (by rfl) (by simp [Value.oneCell']) ?_; intro W5 h5 hu5; refine ⟨rfl, ?_⟩)
        | fail)
      refine ⟨((Below.refl _ _).alloc (Nat.le_refl _) _).upd hu5 (Nat.le_refl _), fun W6 hW6 => ?_⟩
      have hn5 := ((Below.refl W.heap.size W).alloc (Nat.le_refl _) (.cells #[.int .i64 0, .int .i64 0] 23)).upd hu5 (Nat.le_refl _)
      have hI6 := (HI.out.1.below hn5).keptW hW6 (by rw [H6.out.2]; exact Nat.le_refl _) HA.out.2.2.1
      have HI6 := Lib.hid hI6
      clear h5 hu5 hn5 hI6 hW6
      gi_wp2_with fail
      exact ⟨Young.near (Near.refl [] _) (by simp), _, ⟨Q, ov, sp, by rw [HI.out.2.2]; exact HI6.out, rfl⟩, Grown.refl _ _⟩
    case false =>
      rw [hgk, if_neg (by simp)] at HI
      obtain ⟨B, c, hov, hc, hc2, -, -⟩ := OwnsC.reads HI.out.1.own
      subst hov
      clear hc hc2
      gi_wp2_with (first
        | ((with_reducible show wpListIn _ _ _ _ _ ((⟨none, _, _, _, _, _⟩ : Oper) :: _) _ _); refine wpListIn_of (by rfl) ?_; refine wpList_store_blk (o := ⟨none, _, _, _, _, _⟩) ((Blk.new W 23 #[.int .i64 0, .int .i64 0])) (by rfl) _ _ _ (by rfl) (by rfl) (#[.int .i64 r.1, .int .i64 r.2.1]) (by rfl) (size_ref) (by rfl) (by rfl) (by simp [Value.oneCell']) ?_; intro W5 h5 hu5; refine ⟨rfl, ?_⟩)
        | fail)
      refine ⟨((Below.refl _ _).alloc (Nat.le_refl _) _).upd hu5 (Nat.le_refl _), fun W6 hW6 => ?_⟩
      have hn5 := ((Below.refl W.heap.size W).alloc (Nat.le_refl _) (.cells #[.int .i64 0, .int .i64 0] 23)).upd hu5 (Nat.le_refl _)
      have hI6 := (HI.out.1.below hn5).keptW hW6 (by rw [H6.out.2]; exact Nat.le_refl _) HA.out.2.2.1
      have h6 : Blk W6 W.heap.size 23 #[.int .i64 r.1, .int .i64 r.2.1] := h5.keptW hW6
      have hgx := HI.out.1.lt
      have hgr := HI.out.1.gr.lt
      have hgs : S + 3 ≤ W.heap.size := by have := H6.out.2; omega
      have HI6 := Lib.hid (And.intro hI6 (And.intro h6 (And.intro hgx (And.intro hgr (And.intro hgs HI.out.2)))))
      clear h5 hu5 hn5 hI6 hW6 hgx hgr hgs HI hl1 hl2
      generalize W.heap.size = gx at HI6 h6 ⊢
      have hbl := (Below.refl W6.heap.size W6).alloc (Nat.le_refl _) (.cells #[.int .i64 r.1, .int .i64 r.2.1] 23)
      have hra : Reads (W6.alloc (.cells #[.int .i64 r.1, .int .i64 r.2.1] 23)) (some ⟨W6.heap.size, 0, none⟩) [.int .i64 r.1, .int .i64 r.2.1] := reads_new W6 23 [.int .i64 r.1, .int .i64 r.2.1]
      have hoa := Lib.hid (And.intro (OwnsC.ownBelow HI6.out.1.own hbl) (And.intro hra hbl))
      have d2 := HI6.out.1.b2.at_ 0 (v := .slice B (gsome g d root k).length c) rfl
      clear hra hbl
      gi_wp2_with (first
        | ((with_reducible show wpListIn _ _ _ _ _ ((⟨some 26, _, _, _, _, _⟩ : Oper) :: _) _ _); refine wpListIn_of (by rfl) ?_; refine wpList_load_blk (o := ⟨some 26, _, _, _, _, _⟩) (h6) (by rfl) _ _ (by rfl) (by rfl) _ Tryd.underlying23 (by rfl) (size_ref) (by rfl) ?_; refine ⟨rfl, ?_⟩)
        | ((with_reducible show wpListIn _ _ _ _ _ ((⟨some 28, _, _, _, _, _⟩ : Oper) :: _) _ _); refine wpListIn_round (by rfl) ?_; refine wpList_append_vals (o := ⟨some 28, _, _, _, _, _⟩) (by rfl) _ _ _ (by rfl) (S + 3) 23 (.agg #[.int .i64 0, .int .i64 0]) 2 16 Tryd.underlying29 infoRef (by rfl) (by omega) (.slice B (gsome g d root k).length c) (gsome g d root k).length (refCells (gsome g d root k)) sp (by rfl) hoa.out.1 (some ⟨W6.heap.size, 0, none⟩) 1 1 [.int .i64 r.1, .int .i64 r.2.1] (by rfl) (by rfl) hoa.out.2.1 (by simp [Value.oneCell']) (by have := HI6.out.2.2.2.2.2.1; have := HA.out.2.2.2; simp only [maxLen]; omega) (by have := HI6.out.2.2.2.2.2.1; have := HA.out.2.2.2; omega) (by have := HI6.out.1.b4.lt; have := hoa.out.2.2.size; omega) ?_; intro v4 W8 sp4 ho4 hg4 hv4 hn4; refine stopped ?_)
        | fail)
      refine Stopped.mk ?_
      have hlt := HA.out.2.2.1
      have hk8 : Near (Value.slice B (gsome g d root k).length c).ownBlock.toList W6 W8 := (Near.below hoa.out.2.2).trans (Near.grown hg4 (fun x hx => Option.mem_toList.2 hx))
      have hvx : v4.ownBlock = (Value.slice B (gsome g d root k).length c).ownBlock ∨ ∃ x, v4.ownBlock = some x ∧ W6.heap.size ≤ x := hv4.imp id fun e => ⟨_, e, hoa.out.2.2.size⟩
      have ho4' : OwnsC 23 2 W8 (S + 3) v4 (gsome g d root k ++ [r]).length (refCells (gsome g d root k ++ [r])) sp4 := by
        rw [List.length_append, show refCells (gsome g d root k ++ [r]) = refCells (gsome g d root k) ++ [.int .i64 r.1, .int .i64 r.2.1] from refCells_snoc _ r.1 r.2.1]
        exact ho4
      have h9 := HI6.out.1.told hk8 ho4' hvx hlt
      have hob : ∀ x, x < S + 3 → x ∉ (Value.slice B (gsome g d root k).length c).ownBlock.toList := fun x hx hm => by have := (OwnsC.lt HI6.out.1.own x (Option.mem_toList.1 hm)).1; omega
      have hb8 := HI6.out.1.b2.near hk8 (hob S (by omega))
      have d8 := hb8.at_ 0 (v := .slice B (gsome g d root k).length c) rfl
      have f8 := hb8.frozen 0
      have hu9 : Near [S] W8 (W8.setCell ⟨S, 0, none⟩ v4) := Near.upd ((Upd.refl _ _).set 0 _) (List.mem_singleton_self _)
      have hr9 := (HI6.out.2.1.near hk8 (fun hm => by have := HI6.out.2.2.1 gx (List.mem_append_right _ hm); omega)).near hu9 (fun hm => by have := HI6.out.2.2.2.2.1; have := List.mem_singleton.1 hm; omega)
      have d9 := h9.b0.at_ 0 (v := .pointer (some ⟨q.gg, 0, none⟩)) rfl
      have hy9 : Young w6.heap.size (Q.gw.toList ++ (Value.slice B (gsome g d root k).length c).ownBlock.toList) W6 (W8.setCell ⟨S, 0, none⟩ v4) := (Young.near hk8 (fun x hx => .inr (List.mem_append_right _ hx))).trans (Young.near hu9 (fun x hx => .inl (by rw [List.mem_singleton.1 hx, H6.out.2]; omega)))
      have hvl := fun x hx => (OwnsC.lt h9.own x hx)
      have hvg : ∀ x, v4.ownBlock = some x → x ∈ (Value.slice B (gsome g d root k).length c).ownBlock.toList ∨ W6.heap.size ≤ x := fun x hx => by
        rcases hvx with e | ⟨y, e, hy⟩
        · exact .inl (by rw [← e, hx]; simp)
        · rw [hx] at e; injection e with e; exact .inr (e ▸ hy)
      have H9 := Lib.hid (And.intro h9 (And.intro hr9 (And.intro hy9 (And.intro hvl hvg))))
      obtain ⟨B4, c4, rfl, -, -, -, -⟩ := OwnsC.reads ho4
      clear ho4 hg4 hv4 hn4 hk8 hvx ho4' hob hb8 hu9 h9 hy9 hvl hvg hoa h6 d2 hlt
      refine ⟨rfl, ?_⟩
      gi_wp2_with (first
        | ((with_reducible show wpListIn _ _ _ _ _ ((⟨some 30, _, _, _, _, _⟩ : Oper) :: _) _ _); refine wpListIn_of (by rfl) ?_; refine wpList_load_blk (o := ⟨some 30, _, _, _, _, _⟩) (hr9) (by rfl) _ _ (by rfl) (by rfl) _ Tryd.underlying23 (by rfl) (size_ref) (by rfl) ?_; refine ⟨rfl, ?_⟩)
        | fail)
      clear d8 f8 d9 hr9
      generalize W8.setCell ⟨S, 0, none⟩ (.slice B4 ((gsome g d root k).length + 1) c4) = W9 at H9 ⊢
      have hof := gof_any H9.out.1.gr r
      rw [H9.out.1.eg.1, show (g.wants (gsome g d root k)).of r = g.of r by unfold Grd.of; rw [Grd.wants_n]] at hof
      refine ⟨trivial, ?_⟩
      refine (calls_round hof).mono ?_
      rintro e W10 ⟨rfl, hbx⟩
      have H10 := Lib.hid (And.intro (H9.out.1.below hbx) (And.intro (H9.out.2.1.below hbx H9.out.2.1.lt) (And.intro (H9.out.2.2.1.trans (Young.below hbx)) (And.intro (fun x hx => OwnsC.lt (H9.out.1.below hbx).own x hx) H9.out.2.2.2.2))))
      have hs6 : W6.heap.size ≤ W10.heap.size := Nat.le_trans H9.out.2.2.1.size hbx.size
      have HS := Lib.hid hs6
      clear hof hbx H9 hs6
      cases hof : g.of r
      case false =>
        gi_wp2_with fail
        have he : g.wants (gsome g d root (k + 1)) = g.wants (gsome g d root k) := by rw [HI6.out.2.2.2.2.2.2, Grd.wants_snoc, if_neg (by rw [hof]; simp)]
        refine ⟨H10.out.2.2.1, _, ⟨Q, _, sp4, by rw [HI6.out.2.2.2.2.2.2] at he ⊢; exact H10.out.1.grid he, rfl⟩, fun x hx => ?_⟩
        rcases List.mem_append.1 hx with hx | hx
        · exact .inl (List.mem_append_left _ hx)
        · rcases H10.out.2.2.2.2 x (Option.mem_toList.1 hx) with h | h
          · exact .inl (List.mem_append_right _ h)
          · exact .inr h
      case true =>
        have hr10 := H10.out.2.1
        have d10 := H10.out.1.b0.at_ 0 (v := .pointer (some ⟨q.gg, 0, none⟩)) rfl
        gi_wp2_with (first
          | ((with_reducible show wpListIn _ _ _ _ _ ((⟨some 33, _, _, _, _, _⟩ : Oper) :: _) _ _); refine wpListIn_of (by rfl) ?_; refine wpList_load_blk (o := ⟨some 33, _, _, _, _, _⟩) (hr10) (by rfl) _ _ (by rfl) (by rfl) _ Tryd.underlying23 (by rfl) (size_ref) (by rfl) ?_; refine ⟨rfl, ?_⟩)
          | fail)
        have hwl := Grd.wants_len (gsome g d root k) g
        have hw := gwant_anyI H10.out.1.gr (by have := HA.out.2.1; have := HA.out.2.2.2; have := HI6.out.2.2.2.2.2.1; omega) r
        rw [H10.out.1.eg.1] at hw
        refine ⟨trivial, ?_⟩
        refine (calls_round hw).mono ?_
        rintro e W11 ⟨rfl, Q', eg, hG, hN, hn⟩
        have he : g.wants (gsome g d root (k + 1)) = (g.wants (gsome g d root k)).want r := by rw [HI6.out.2.2.2.2.2.2, Grd.wants_snoc, if_pos hof]
        have h11 := H10.out.1.wanted he HA.out.2.2.1 eg hG hN hn
        have hy11 := H10.out.2.2.1.trans (Young.near (B := w6.heap.size) (X := Q.gw.toList ++ (Value.slice B (gsome g d root k).length c).ownBlock.toList) hN (fun x hx => by
          rw [H6.out.2]
          exact HI6.out.1.low HA.out.2.2.1 x hx))
        have hgw := gw_grown hG.apart eg hn
        have H11 := Lib.hid (And.intro h11 (And.intro hy11 (And.intro hgw he)))
        clear hw hwl eg hG hN hn he h11 hy11 hgw hr10 d10
        gi_wp2_with fail
        refine ⟨H11.out.2.1, _, ⟨Q', _, sp4, by rw [← HI6.out.2.2.2.2.2.2] at H11; exact H11.out.1, rfl⟩, fun x hx => ?_⟩
        rcases List.mem_append.1 hx with hx | hx
        · rcases H11.out.2.2.1 x (Option.mem_toList.1 hx) with h | h
          · exact .inl (List.mem_append_left _ (Option.mem_toList.2 h))
          · exact .inr (Nat.le_trans HS.out h)
        · rcases H10.out.2.2.2.2 x (Option.mem_toList.1 hx) with h | h
          · exact .inl (List.mem_append_right _ h)
          · exact .inr h
  case done =>
    intro D X W hD hI hK
    obtain ⟨Q, ov, sp, h1, rfl⟩ := hI
    rw [gsome_all] at h1
    have HX := Lib.hid (And.intro h1 hK)
    have d0 := h1.b2.at_ 0 (v := ov) rfl
    obtain ⟨A, c, rfl, hc, hc2, hrd, -⟩ := OwnsC.reads h1.own
    have HR := Lib.hid (And.intro hc (And.intro hc2 hrd))
    clear h1 hK hc hc2 hrd
    go_wp2_with fail
    refine ⟨by simp, .inl ⟨_, _, rfl, run_takeDeferred HX.out.2, ?_⟩⟩
    have k1 := mark_kept (B := S + 3) (by rw [← H6.out.2]; exact hD) HX.out.2
    refine ⟨_, results_tmp2 (by rfl) _ _ _, ?_⟩
    rw [HL.out]
    have h2 := HX.out.1.keptW k1 (Nat.le_refl _) HA.out.2.2.1
    refine ⟨A, c, rfl, Refs.of (HR.out.2.2.keptW k1), HR.out.1, HR.out.2.1, Q, h2.eg.1, h2.eg.2.1, h2.eg.2.2.1, h2.gr, h2.near, fun x hx => (h2.new x hx).imp id (fun h => by have := h2.sz; omega), fun ad e => ?_⟩
    subst e
    have ho := ownOf h2.own
    exact ⟨by have := (OwnsC.lt h2.own _ ho).1; have := h2.sz; omega, h2.off _ ho⟩
end Go.Proofs.YthfdjemlibecgaaDoor

/- A grid that a statement made, and the statement's own blocks beside it. Conditions: as each says. -/
namespace Go.Proofs.YthfdjemlibecgaaDoor
open Go.RowKit
/-- Some blocks are as they were. -/
structure Same (Y : List Nat) (w w' : World) : Prop where
  size : w.heap.size ≤ w'.heap.size
  block : ∀ y ∈ Y, w'.heap[y]? = w.heap[y]?
/-- What was there ahead of B is as it was, and so are the statement's own blocks. -/
structure GStep (B : Nat) (Y : List Nat) (w w' : World) : Prop where
  bel : Below B w w'
  same : Same Y w w'
section
variable {B : Nat} {Y Y' : List Nat} {w w' w'' : World}
theorem Same.trans (h : Same Y w w') (k : Same Y w' w'') : Same Y w w'' := ⟨Nat.le_trans h.size k.size, fun y hy => (k.block y hy).trans (h.block y hy)⟩
theorem Same.sub (h : Same Y w w') (hs : ∀ y ∈ Y', y ∈ Y) : Same Y' w w' := ⟨h.size, fun y hy => h.block y (hs y hy)⟩
theorem Same.below (k : Below w.heap.size w w') (hY : ∀ y ∈ Y, y < w.heap.size) : Same Y w w' := ⟨k.size, fun y hy => k.block y (hY y hy)⟩
theorem Same.near {X : List Nat} (k : Near X w w') (hY : ∀ y ∈ Y, y < w.heap.size ∧ y ∉ X) : Same Y w w' := ⟨k.size, fun y hy => k.block y (hY y hy).1 (hY y hy).2⟩
theorem Same.blk {y : Nat} {t : TypeId} {cs : Array Value} (h : Same Y w w') (hb : Blk w y t cs) (hy : y ∈ Y) : Blk w' y t cs := (h.block y hy).trans hb
theorem Same.cell (h : Same Y w w') {p : Addr} (hp : p.block ∈ Y) : w'.cell? p = w.cell? p := by unfold World.cell?; rw [h.block _ hp]
theorem Same.bytes {A : Option Addr} {l : List UInt8} (h : Same Y w w') (hb : Bytes w A l) (hA : ∀ ad, A = some ad → ad.block ∈ Y) : Bytes w' A l := fun hne => by
  obtain ⟨b, off, e, hc⟩ := hb hne
  exact ⟨b, off, e, fun j v hv => (h.cell (p := ⟨b, off + j, none⟩) (hA ⟨b, off, none⟩ e)).trans (hc j v hv)⟩
theorem Same.refs {A : Option Addr} {l : List RefT} (h : Same Y w w') (hb : Refs w A l) (hA : ∀ ad, A = some ad → ad.block ∈ Y) : Refs w' A l := fun hp => by
  obtain ⟨b, off, e, hlt, hc⟩ := hb hp
  have hm : b ∈ Y := hA _ e
  exact ⟨b, off, e, Nat.lt_of_lt_of_le hlt h.size, fun i hi => ⟨(h.cell (p := ⟨b, off + i * 2, none⟩) hm).trans (hc i hi).1, (h.cell (p := ⟨b, off + i * 2 + 1, none⟩) hm).trans (hc i hi).2⟩⟩
theorem GStep.trans (h : GStep B Y w w') (k : GStep B Y w' w'') : GStep B Y w w'' := ⟨h.bel.trans k.bel, h.same.trans k.same⟩
theorem GStep.sub (h : GStep B Y w w') (hs : ∀ y ∈ Y', y ∈ Y) : GStep B Y' w w' := ⟨h.bel, h.same.sub hs⟩
theorem GStep.below (k : Below w.heap.size w w') (hs : B ≤ w.heap.size) (hY : ∀ y ∈ Y, y < w.heap.size) : GStep B Y w w' := ⟨k.mono hs, Same.below k hY⟩
end
/-- The grid, its disk, and what is none of theirs. -/
def GX (B : Nat) (Y : List Nat) (w : World) (gp dp : Nat) (g : Grd) (d : Dsk) : Prop :=
  ∃ q : GPl, q.gg = gp ∧ q.p.gd = dp ∧ q.gf = none ∧ GridR w q g d none ∧ (∀ x ∈ q.all, B ≤ x ∧ x ∉ Y) ∧ (∀ y ∈ Y, y < w.heap.size) ∧ B ≤ w.heap.size
section
variable {B gp dp : Nat} {Y Y' : List Nat} {w w' : World} {g g2 : Grd} {d d2 : Dsk}
theorem GX.of_GL (h : GL B w gp dp g d) (hs : B ≤ w.heap.size) : GX B [] w gp dp g d := by
  obtain ⟨q, h1, h2, h3, h4, h5⟩ := h
  exact ⟨q, h1, h2, h3, h4, fun x hx => ⟨h5 x hx, List.not_mem_nil⟩, fun y hy => absurd hy List.not_mem_nil, hs⟩
theorem GX.gl (h : GX B Y w gp dp g d) : GL B w gp dp g d := by
  obtain ⟨q, h1, h2, h3, h4, h5, h6, h7⟩ := h
  exact ⟨q, h1, h2, h3, h4, fun x hx => (h5 x hx).1⟩
theorem GX.size (h : GX B Y w gp dp g d) : B ≤ w.heap.size := by obtain ⟨q, h1, h2, h3, h4, h5, h6, h7⟩ := h; exact h7
theorem GX.own (h : GX B Y w gp dp g d) : ∀ y ∈ Y, y < w.heap.size := by obtain ⟨q, h1, h2, h3, h4, h5, h6, h7⟩ := h; exact h6
theorem GX.ok (h : GX B Y w gp dp g d) : g.Ok d := by obtain ⟨q, h1, h2, h3, h4, h5, h6, h7⟩ := h; exact h4.ok
theorem GX.below (h : GX B Y w gp dp g d) (k : Below w.heap.size w w') : GX B Y w' gp dp g d ∧ GStep B Y w w' := by
  obtain ⟨q, h1, h2, h3, h4, h5, h6, h7⟩ := h
  exact ⟨⟨q, h1, h2, h3, h4.below k, h5, fun y hy => Nat.lt_of_lt_of_le (h6 y hy) k.size, Nat.le_trans h7 k.size⟩, GStep.below k h7 h6⟩
theorem GX.sub (h : GX B Y w gp dp g d) (hs : ∀ y ∈ Y', y ∈ Y) : GX B Y' w gp dp g d := by
  obtain ⟨q, h1, h2, h3, h4, h5, h6, h7⟩ := h
  exact ⟨q, h1, h2, h3, h4, fun x hx => ⟨(h5 x hx).1, fun hm => (h5 x hx).2 (hs x hm)⟩, fun y hy => h6 y (hs y hy), h7⟩
/-- A block of the statement's own that came since. -/
theorem GX.add (h : GX B Y w gp dp g d) (k : Below w.heap.size w w') {y : Nat} (hy : w.heap.size ≤ y) (hy2 : y < w'.heap.size) : GX B (y :: Y) w' gp dp g d := by
  obtain ⟨q, h1, h2, h3, h4, h5, h6, h7⟩ := h
  refine ⟨q, h1, h2, h3, h4.below k, fun x hx => ⟨(h5 x hx).1, fun hm => ?_⟩, fun z hz => ?_, Nat.le_trans h7 k.size⟩
  · rcases List.mem_cons.1 hm with e | e
    · have := h4.lt x hx; omega
    · exact (h5 x hx).2 e
  · rcases List.mem_cons.1 hz with e | e
    · omega
    · exact Nat.lt_of_lt_of_le (h6 z e) k.size
/-- The statement writes blocks of its own. -/
theorem GX.wrote (h : GX B Y w gp dp g d) {X : List Nat} (k : Near X w w') (hX : ∀ x ∈ X, x ∈ Y) : GX B Y w' gp dp g d := by
  obtain ⟨q, h1, h2, h3, h4, h5, h6, h7⟩ := h
  exact ⟨q, h1, h2, h3, h4.near k (fun x hx hm => (h5 x hx).2 (hX x hm)), h5, fun y hy => Nat.lt_of_lt_of_le (h6 y hy) k.size, Nat.le_trans h7 k.size⟩
theorem GX.of_post {q : GPl} {f : Option Fus} (h1 : q.gg = gp) (h2 : q.p.gd = dp) (h3 : q.gf = none) (h5 : ∀ x ∈ q.all, B ≤ x ∧ x ∉ Y) (h6 : ∀ y ∈ Y, y < w.heap.size) (h7 : B ≤ w.heap.size) (h : GPost w q g2 d2 f w') : GX B Y w' gp dp g2 d2 ∧ GStep B Y w w' := by
  obtain ⟨q', k1, k2, k3, k4, k5, k6⟩ := h
  have hf : f = none := by
    have := k4.dk.fr
    rw [k3, h3] at this
    exact this.none_
  subst hf
  refine ⟨⟨q', k1.trans h1, (congrArg Pl.gd k2).trans h2, k3.trans h3, k4, fun x hx => ?_, fun y hy => Nat.lt_of_lt_of_le (h6 y hy) k5.size, Nat.le_trans h7 k5.size⟩, k5.toBelow (fun x hx => (h5 x hx).1) h7, Same.near k5 fun y hy => ⟨h6 y hy, fun hm => (h5 y hm).2 hy⟩⟩
  rcases k6 x hx with e | e
  · exact h5 x e
  · exact ⟨Nat.le_trans h7 e, fun hm => by have := h6 x hm; omega⟩
theorem rpost_post {q : GPl} {A : Option Addr} {f : Option Fus} (h : RPost w q A g d f w') : GPost w q g d f w' := by
  obtain ⟨q', k1, k2, k3, k4, k5, k6, k7⟩ := h
  exact ⟨q', k1, k2, k3, k4, k5, k6⟩
/-- A ref is looked for, and found. -/
theorem xraw_some (h : GX B Y w gp dp g d) (hl : g.W.length ≤ 1000000000) (r : RefT) {b : GBT} (hg : glook g d none r = (0, some b, g)) :
    Calls Tryd.prog 25 #[.pointer (some ⟨gp, 0, none⟩), .agg #[.int .i64 r.1, .int .i64 r.2.1]] w fun e w' => ∃ y, e = .returned (.tuple #[.slice (some ⟨y, 0, none⟩) (gblk d r.1).length (gblk d r.1).length, .int .i64 0]) ∧
      Blk w' y 5 ((gblk d r.1).map u8v).toArray ∧ w.heap.size ≤ y ∧ GX B (y :: Y) w' gp dp g d ∧ GStep B Y w w' := by
  have h0 := h
  obtain ⟨q, h1, h2, h3, h4, h5, h6, h7⟩ := h
  have hr := graw_any h4 (by omega) r
  rw [hg, h1] at hr
  refine hr.mono ?_
  rintro e w' ⟨v2, rfl, ⟨v1, A, c, C0, e1, C, -, rfl, -, -, -, -, -, hC, -, -⟩, hP⟩
  obtain ⟨y, rfl, hy, hb⟩ := hC rfl
  have hbx := hP.2 rfl
  exact ⟨y, rfl, hb, hy, h0.add hbx hy hb.lt, (h0.below hbx).2⟩
/-- A ref is looked for. -/
theorem xread (h : GX B Y w gp dp g d) (hl : g.W.length ≤ 1000000000) (r : RefT) {c : Int} {o : Option GBT} (hg : glook g d none r = (c, o, g2)) :
    Calls Tryd.prog 23 #[.pointer (some ⟨gp, 0, none⟩), .agg #[.int .i64 r.1, .int .i64 r.2.1]] w fun e w' => ∃ v1, e = .returned (.tuple #[v1, .int .i64 c]) ∧ (∃ v2, GBTold o (gblk d r.1) w v1 v2 w') ∧ GX B Y w' gp dp g2 d ∧ GStep B Y w w' := by
  obtain ⟨q, h1, h2, h3, h4, h5, h6, h7⟩ := h
  have hr := gread_any h4 (by omega) r
  rw [hg, h1] at hr
  refine hr.mono ?_
  rintro e w' ⟨v1, rfl, hT, hP⟩
  exact ⟨v1, rfl, hT, GX.of_post h1 h2 h3 h5 h6 h7 hP.1⟩
/-- Which refs are not there. -/
theorem xreach (h : GX B Y w gp dp g d) (hl : g.W.length ≤ 1000000000) (r : RefT) {c0 : Int} {L : List RefT} (hg : greach g d none r = (c0, L, g2)) :
    Calls Tryd.prog 43 #[.pointer (some ⟨gp, 0, none⟩), .agg #[.int .i64 r.1, .int .i64 r.2.1]] w fun e w' => ∃ A c, e = .returned (.tuple #[.slice A L.length c, .int .i64 c0]) ∧ Refs w' A L ∧ L.length ≤ c ∧ c ≤ 9223372036854775807 ∧
      (∀ ad, A = some ad → w.heap.size ≤ ad.block ∧ (ad.block < w'.heap.size → GX B (ad.block :: Y) w' gp dp g2 d)) ∧ GX B Y w' gp dp g2 d ∧ GStep B Y w w' := by
  obtain ⟨q, h1, h2, h3, h4, h5, h6, h7⟩ := h
  have hr := greach_any h4 hl r
  rw [hg, h1] at hr
  refine hr.mono ?_
  rintro e w' ⟨A, c, rfl, hR, hc, hc2, hP⟩
  have hx := GX.of_post h1 h2 h3 h5 h6 h7 (rpost_post hP)
  refine ⟨A, c, rfl, hR, hc, hc2, fun ad e => ?_, hx⟩
  obtain ⟨q', k1, k2, k3, k4, k5, k6, k7⟩ := hP
  refine ⟨(k7 ad e).1, fun hlt => ⟨q', k1.trans h1, (congrArg Pl.gd k2).trans h2, k3.trans h3, k4, fun x hx => ⟨?_, fun hm => ?_⟩, fun y hy => ?_, Nat.le_trans h7 k5.size⟩⟩
  · rcases k6 x hx with e | e
    · exact (h5 x e).1
    · exact Nat.le_trans h7 e
  · rcases List.mem_cons.1 hm with rfl | hm
    · exact (k7 ad e).2 hx
    · rcases k6 x hx with e | e
      · exact (h5 x e).2 hm
      · have := h6 x hm; omega
  · rcases List.mem_cons.1 hy with rfl | hy
    · exact hlt
    · exact Nat.lt_of_lt_of_le (h6 y hy) k5.size
/-- A block is put where it stood. -/
theorem xinstall (h : GX B Y w gp dp g d) (hl : g.W.length ≤ 1000000000) (r : RefT) (A : Option Addr) (n c : Nat) (raw : List UInt8) (hn : n = raw.length) (hc : n ≤ c) (hc2 : c ≤ 9223372036854775807) (hb : Bytes w A raw) (hA : ∀ ad, A = some ad → ad.block ∈ Y) {c0 : Int} (hg : ginst g d none r raw = (c0, g2, d2, none)) :
    Calls Tryd.prog 28 #[.pointer (some ⟨gp, 0, none⟩), .agg #[.int .i64 r.1, .int .i64 r.2.1], .slice A n c] w fun e w' => e = .returned (.int .i64 c0) ∧ GX B Y w' gp dp g2 d2 ∧ GStep B Y w w' := by
  obtain ⟨q, h1, h2, h3, h4, h5, h6, h7⟩ := h
  have hr := ginstall_any h4 (by omega) r A n c raw hn hc hc2 hb (fun ad e hm => (h5 _ (GPl.mem.2 (.inr (.inr (.inr (.inr hm)))))).2 (hA ad e))
  rw [hg, h1] at hr
  refine hr.mono ?_
  rintro e w' ⟨rfl, hP⟩
  exact ⟨rfl, GX.of_post h1 h2 h3 h5 h6 h7 hP⟩
theorem xrelease (h : GX B Y w gp dp g d) (r : RefT) (hb1 : -9223372036854775808 ≤ r.1) (hb2 : r.1 ≤ 9223372036854775807) :
    Calls Tryd.prog 31 #[.pointer (some ⟨gp, 0, none⟩), .agg #[.int .i64 r.1, .int .i64 r.2.1]] w fun e w' => e = .returned (.int .i64 (turnCode g.L r.1 1)) ∧ GX B Y w' gp dp { g with L := turnL g.L r.1 1 2 } d ∧ GStep B Y w w' := by
  obtain ⟨q, h1, h2, h3, h4, h5, h6, h7⟩ := h
  have hr := grelease_any h4 r hb1 hb2
  rw [h1] at hr
  refine hr.mono ?_
  rintro e w' ⟨rfl, hP⟩
  exact ⟨rfl, GX.of_post h1 h2 h3 h5 h6 h7 hP⟩
theorem xsettle (h : GX B Y w gp dp g d) :
    Calls Tryd.prog 33 #[.pointer (some ⟨gp, 0, none⟩)] w fun e w' => e = .returned (.int .i64 (cnt g.L g.L.length : Nat)) ∧ GX B Y w' gp dp { g with L := setl g.L } d ∧ GStep B Y w w' := by
  obtain ⟨q, h1, h2, h3, h4, h5, h6, h7⟩ := h
  have hr := gsettle_any h4
  rw [h1] at hr
  refine hr.mono ?_
  rintro e w' ⟨rfl, hP⟩
  exact ⟨rfl, GX.of_post h1 h2 h3 h5 h6 h7 hP⟩
theorem xwanted (h : GX B Y w gp dp g d) (hl : g.W.length ≤ 1000000000) :
    Calls Tryd.prog 30 #[.pointer (some ⟨gp, 0, none⟩)] w (RefsTold g.W w) := by
  obtain ⟨q, h1, h2, h3, h4, h5, h6, h7⟩ := h
  have hr := gwanted_any h4 (by omega)
  rw [h1] at hr
  exact hr
/-- A byte of the disk is turned. -/
theorem xturn (h : GX B Y w gp dp g d) (s a : Int) (m : UInt8) {c0 : Int} (hg : d.turn s a m = (c0, d2)) (hN : d2.N = d.N) :
    Calls Tryd.prog 26 #[.pointer (some ⟨dp, 0, none⟩), .int .i64 s, .int .i64 a, .int .u8 (iu8 m)] w fun e w' => e = .returned (.int .i64 c0) ∧ GX B Y w' gp dp g d2 ∧ GStep B Y w w' := by
  obtain ⟨q, h1, h2, h3, h4, h5, h6, h7⟩ := h
  have hr := turn_all s a m h4.dk.dr h4.dk.ok
  have hok := Dsk.turn_ok (s := s) (a := a) (m := m) h4.dk.ok
  rw [hg] at hok
  rw [hg, h2] at hr
  refine hr.mono ?_
  rintro e w' ⟨rfl, hd, hN2⟩
  have hlow : Near (q.p.all q.gf) w w' := hN2.wider (fun x hx => by rw [List.mem_singleton.1 hx]; simp [Pl.all])
  have hfr := h4.dk.fr.near hN2 (fun x hx => by rw [h3] at hx; cases hx)
  exact ⟨rfl, GX.of_post h1 h2 h3 h5 h6 h7 (f := none) ⟨q, rfl, rfl, rfl, h4.wrote ⟨hd, hfr, hok⟩ hlow hN, hlow.wider (fun x hx => GPl.mem.2 (.inr (.inr (.inr (.inr hx))))), fun x hx => .inl hx⟩⟩
end
end Go.Proofs.YthfdjemlibecgaaDoor

/- The law asks which refs are not there. Conditions: the grid was made; the answer is known. -/
namespace Go.Proofs.YthfdjemlibecgaaDoor
open Go.RowKit
section
variable {B gp dp : Nat} {Y : List Nat} {w : World} {g g2 : Grd} {d : Dsk}
set_option maxRecDepth 100000 in
set_option maxHeartbeats 4000000 in
theorem lreaches_any (h : GX B Y w gp dp g d) (hl : g.W.length ≤ 1000000000) (root : RefT) {L : List RefT} (hL : L.length ≤ 5000) (hg : greach g d none root = (0, L, g2)) (A : Option Addr) (n c : Nat) (want : List RefT) (hn : n = want.length) (hr : Refs w A want) (hA : ∀ ad, A = some ad → ad.block ∈ Y) :
    Calls Tryd.prog 27 #[.pointer (some ⟨gp, 0, none⟩), .agg #[.int .i64 root.1, .int .i64 root.2.1], .slice A n c] w fun e w' => e = .returned (.bool (decide (L = want))) ∧ GX B Y w' gp dp g2 d ∧ GStep B Y w w' := by
  have hB := (Below.refl w.heap.size w).alloc (Nat.le_refl _) (.cells #[.int .i64 root.1, .int .i64 root.2.1] 23)
  have hbr := Blk.new w 23 #[.int .i64 root.1, .int .i64 root.2.1]
  have H1 := Lib.hid (h.below hB)
  have HA := Lib.hid (And.intro hl (And.intro hL (And.intro hg (And.intro hn (And.intro hr hA)))))
  clear h hB hl hL hg hn hr hA
  go_enter Tryd.func27, Tryd.ntmps27
  go_wp2_with (first
    | ((with_reducible show wpList _ _ _ ((⟨some 11, _, _, _, _, _⟩ : Oper) :: _) _ _); refine wpList_load_blk (o := ⟨some 11, _, _, _, _, _⟩) (hbr) (by rfl) _ _ (by rfl) (by rfl) _ Tryd.underlying23 (by rfl) (size_ref) (by rfl) ?_)
    | fail)
  generalize w.alloc (.cells #[.int .i64 root.1, .int .i64 root.2.1] 23) = w1 at H1 hbr ⊢
  clear hbr
  refine (xreach H1.out.1 HA.out.1 root HA.out.2.2.1).mono ?_
  rintro e w2 ⟨A2, c2, rfl, hR, -, -, -, hG, hS⟩
  have H2 := Lib.hid (And.intro hG (And.intro (H1.out.2.trans hS) (And.intro hR ((H1.out.2.trans hS).same.refs HA.out.2.2.2.2.1 HA.out.2.2.2.2.2))))
  clear hG hS hR H1
  go_wp2_with fail
  refine (sameRefs_any A2 A L.length n c2 c L want rfl HA.out.2.2.2.1 HA.out.2.1 w2 H2.out.2.2.1 H2.out.2.2.2).mono ?_
  rintro e w3 ⟨rfl, hbx⟩
  have H3 := Lib.hid (And.intro (H2.out.1.below hbx).1 (H2.out.2.1.trans (H2.out.1.below hbx).2))
  clear hbx H2
  go_wp2
  go_ret
  exact ⟨rfl, H3.out⟩
end
end Go.Proofs.YthfdjemlibecgaaDoor

/- A law's lists beside a grid: refs, and bytes of blocks. Conditions: as each says. -/
namespace Go.Proofs.YthfdjemlibecgaaDoor
open Go.RowKit
section
variable {B gp dp : Nat} {Y Y' : List Nat} {w w' : World} {g g2 : Grd} {d d2 : Dsk}
theorem Same.owns {e : TypeId} {size base n : Nat} {v : Value} {xs sp : List Value} (h : Same Y w w') (ho : OwnsC e size w base v n xs sp) (hv : ∀ x, v.ownBlock = some x → x ∈ Y) : OwnsC e size w' base v n xs sp := by
  rcases ho with ho | ⟨g, cap, rfl, hb, hgg, rest⟩
  · exact .inl ho
  · exact .inr ⟨g, cap, rfl, hb, h.blk hgg (hv g rfl), rest⟩
/-- A list of the statement's own has grown. -/
theorem GX.append (h : GX B Y w gp dp g d) {v v' : Value} (hg : w.grownBy w' v.ownBlock) (ho : ∀ x, v.ownBlock = some x → x ∈ Y) (hv : v'.ownBlock = v.ownBlock ∨ v'.ownBlock = some w.heap.size) (hlt : ∀ x, v'.ownBlock = some x → x < w'.heap.size) (hbo : ∀ x, v.ownBlock = some x → B ≤ x) :
    GX B (v'.ownBlock.toList ++ Y) w' gp dp g d ∧ Below B w w' ∧ ∀ y ∈ Y, v.ownBlock ≠ some y → w'.heap[y]? = w.heap[y]? := by
  have hB : ∀ x ∈ v.ownBlock.toList, B ≤ x := fun x hx => hbo x (Option.mem_toList.1 hx)
  have k : Near v.ownBlock.toList w w' := Near.grown hg (fun x hx => Option.mem_toList.2 hx)
  have h1 := h.wrote k (fun x hx => ho x (Option.mem_toList.1 hx))
  refine ⟨?_, k.toBelow hB h.size, fun y hy hne => k.block y (h.own y hy) (fun hm => hne (Option.mem_toList.1 hm))⟩
  obtain ⟨q, k1, k2, k3, k4, k5, k6, k7⟩ := h1
  obtain ⟨q0, j1, j2, j3, j4, j5, j6, j7⟩ := h
  refine ⟨q0, j1, j2, j3, j4.near k (fun x hx hm => (j5 x hx).2 (ho x (Option.mem_toList.1 hm))), fun x hx => ⟨(j5 x hx).1, fun hm => ?_⟩, fun y hy => ?_, k7⟩
  · rcases List.mem_append.1 hm with hm | hm
    · rcases hv with e | e
      · rw [e] at hm; exact (j5 x hx).2 (ho x (Option.mem_toList.1 hm))
      · rw [e, Option.mem_toList] at hm; injection hm with hm; have := j4.lt x hx; omega
    · exact (j5 x hx).2 hm
  · rcases List.mem_append.1 hy with hy | hy
    · exact hlt y (Option.mem_toList.1 hy)
    · exact k6 y hy
/-- A block is written. -/
theorem xwrite (h : GX B Y w gp dp g d) (hT : Tab w) (k s : Int) (A A2 : Option Addr) (n c m e1 : Nat) (l : List RefT) (body : List UInt8) (hn : n = l.length) (hm : m = body.length) (hl : l.length ≤ 1000) (hbl : body.length ≤ 5000) (hr : Refs w A l) (hb : Bytes w A2 body) {c0 : Int} {r : RefT} (hg : gput g d none k l body s = ((c0, r), g2, d2, none)) :
    Calls Tryd.prog 36 #[.pointer (some ⟨gp, 0, none⟩), .int .i64 k, .slice A n c, .slice A2 m e1, .int .i64 s] w fun e w' => e = .returned (.tuple #[.agg #[.int .i64 r.1, .int .i64 r.2.1], .int .i64 c0]) ∧ GX B Y w' gp dp g2 d2 ∧ GStep B Y w w' := by
  obtain ⟨q, h1, h2, h3, h4, h5, h6, h7⟩ := h
  have hw := gwrite_any h4 k s A A2 n c m e1 l body hn hm hl hbl hr hb hT
  rw [hg, h1] at hw
  refine hw.mono ?_
  rintro e w' ⟨rfl, hP⟩
  exact ⟨rfl, GX.of_post h1 h2 h3 h5 h6 h7 hP⟩
end
def rawv (y : Nat) : Value := .slice (some ⟨y, 0, none⟩) 1024 1024
/-- The refs and the bytes of the blocks that the law wrote. -/
structure ChAt (B : Nat) (Y : List Nat) (i j : Nat) (v9 v10 : Value) (w : World) : Prop where
  refs : ∃ sp, OwnsC 23 2 w B v9 i (refCells ((List.range i).map ck)) sp
  raws : ∃ (ys : List Nat) (sp : List Value), OwnsC 44 1 w B v10 j (ys.map rawv) sp ∧ ys.length = j ∧ ∀ (k y : Nat), ys[k]? = some y → Blk w y 5 ((GB.bytes (cb k)).map u8v).toArray ∧ y ∈ Y
  o9 : ∀ x, v9.ownBlock = some x → x ∈ Y
  o10 : ∀ x, v10.ownBlock = some x → x ∈ Y
section
variable {B i j : Nat} {Y Y' : List Nat} {v9 v10 v' : Value} {w w' : World}
theorem ChAt.step (h : ChAt B Y i j v9 v10 w) (k : Same Y w w') : ChAt B Y i j v9 v10 w' := by
  obtain ⟨⟨sp, h1⟩, ⟨ys, sp2, h2, h3, h4⟩, h5, h6⟩ := h
  exact ⟨⟨sp, k.owns h1 h5⟩, ⟨ys, sp2, k.owns h2 h6, h3, fun j y hy => ⟨k.blk (h4 j y hy).1 (h4 j y hy).2, (h4 j y hy).2⟩⟩, h5, h6⟩
theorem ChAt.more (h : ChAt B Y i j v9 v10 w) (hs : ∀ y ∈ Y, y ∈ Y') : ChAt B Y' i j v9 v10 w := by
  obtain ⟨h1, ⟨ys, sp2, h2, h3, h4⟩, h5, h6⟩ := h
  exact ⟨h1, ⟨ys, sp2, h2, h3, fun j y hy => ⟨(h4 j y hy).1, hs y (h4 j y hy).2⟩⟩, fun x hx => hs x (h5 x hx), fun x hx => hs x (h6 x hx)⟩
theorem ChAt.nil (B : Nat) (w : World) : ChAt B [] 0 0 (.slice none 0 0) (.slice none 0 0) w :=
  ⟨⟨[], OwnsC.nil _ _ _ _⟩, ⟨[], [], OwnsC.nil _ _ _ _, rfl, fun j y h => (by cases h)⟩, fun x h => (by cases h), fun x h => (by cases h)⟩
/-- A ref is appended. -/
theorem ChAt.ref (h : ChAt B Y i j v9 v10 w) {sp' : List Value} (ho : OwnsC 23 2 w' B v' (i + 1) (refCells ((List.range i).map ck) ++ [.int .i64 (ck i).1, .int .i64 (ck i).2.1]) sp') (hg : w.grownBy w' v9.ownBlock) : ChAt B (v'.ownBlock.toList ++ Y) (i + 1) j v' v10 w' := by
  obtain ⟨⟨sp, h1⟩, ⟨ys, sp2, h2, h3, h4⟩, h5, h6⟩ := h
  have k : Near v9.ownBlock.toList w w' := Near.grown hg (fun x hx => Option.mem_toList.2 hx)
  have ap : ∀ (z : Nat) (t : TypeId) (cs : Array Value), Blk w z t cs → t ≠ 23 → z ∉ v9.ownBlock.toList := fun z t cs hz ht hm => by
    obtain ⟨cs', hb⟩ := ownBlk h1 (Option.mem_toList.1 hm)
    exact hz.apart hb ht rfl
  refine ⟨⟨sp', by rw [List.range_succ, List.map_append, show refCells ((List.range i).map ck ++ [i].map ck) = refCells ((List.range i).map ck) ++ [.int .i64 (ck i).1, .int .i64 (ck i).2.1] from refCells_snoc _ _ _]; exact ho⟩, ⟨ys, sp2, ?_, h3, fun k' y hy => ⟨(h4 k' y hy).1.near k (ap y _ _ (h4 k' y hy).1 (by decide)), List.mem_append_right _ (h4 k' y hy).2⟩⟩, fun x hx => List.mem_append_left _ (Option.mem_toList.2 hx), fun x hx => List.mem_append_right _ (h6 x hx)⟩
  refine OwnsC.nearO h2 k (fun x hx => ?_)
  obtain ⟨cs, hb⟩ := ownBlk h2 hx
  exact ap x _ _ hb (by decide)
/-- A block's bytes are appended. -/
theorem ChAt.raw (h : ChAt B Y i j v9 v10 w) {ys : List Nat} {sp sp' : List Value} (h2 : OwnsC 44 1 w B v10 j (ys.map rawv) sp) (h3 : ys.length = j) (h4 : ∀ (k y : Nat), ys[k]? = some y → Blk w y 5 ((GB.bytes (cb k)).map u8v).toArray ∧ y ∈ Y) {y : Nat} (hy : Blk w y 5 ((GB.bytes (cb j)).map u8v).toArray) (hyY : y ∈ Y)
    (ho : OwnsC 44 1 w' B v' (j + 1) (ys.map rawv ++ [rawv y]) sp') (hg : w.grownBy w' v10.ownBlock) : ChAt B (v'.ownBlock.toList ++ Y) i (j + 1) v9 v' w' := by
  obtain ⟨⟨spr, h1⟩, -, h5, h6⟩ := h
  have k : Near v10.ownBlock.toList w w' := Near.grown hg (fun x hx => Option.mem_toList.2 hx)
  have ap : ∀ (z : Nat) (t : TypeId) (cs : Array Value), Blk w z t cs → t ≠ 44 → z ∉ v10.ownBlock.toList := fun z t cs hz ht hm => by
    obtain ⟨cs', hb⟩ := ownBlk h2 (Option.mem_toList.1 hm)
    exact hz.apart hb ht rfl
  refine ⟨⟨spr, OwnsC.nearO h1 k (fun x hx => ?_)⟩, ⟨ys ++ [y], sp', by rw [List.map_append]; exact ho, by rw [List.length_append, h3]; rfl, fun k' z hz => ?_⟩, fun x hx => List.mem_append_right _ (h5 x hx), fun x hx => List.mem_append_left _ (Option.mem_toList.2 hx)⟩
  · obtain ⟨cs, hb⟩ := ownBlk h1 hx
    exact ap x _ _ hb (by decide)
  · rw [List.getElem?_append] at hz
    split at hz
    · exact ⟨(h4 k' z hz).1.near k (ap z _ _ (h4 k' z hz).1 (by decide)), List.mem_append_right _ (h4 k' z hz).2⟩
    · rename_i hk
      have hk0 : k' = j := by
        have := (List.getElem?_eq_some_iff.1 hz).1
        simp only [List.length_singleton] at this
        omega
      subst hk0
      rw [h3, Nat.sub_self] at hz
      injection hz with hz
      subst hz
      exact ⟨hy.near k (ap _ _ _ hy (by decide)), List.mem_append_right _ hyY⟩
end
theorem chain_look {n m : Nat} {d : Dsk} (h : Chain n m (fun _ => false) d) (hn : n ≤ 10) {i : Nat} (hi : i < m) (hm : m ≤ n) (L : List Nat) : glook ⟨n, L, []⟩ d none (ck i) = (0, some (cb i), ⟨n, L, []⟩) ∧ gblk d (ck i).1 = GB.bytes (cb i) := by
  have hb : gblk d (ck i).1 = GB.bytes (cb i) := (h.blk i hi).trans (if_neg (by simp))
  refine ⟨?_, hb⟩
  unfold glook
  have ht : gthere d (ck i) = some (cb i) := gthere_some (b := cb i) (cb_ok (by omega)) hb
  rw [if_neg (by unfold Dsk.isOut; rw [h.rm.out]; simp), if_neg (by rw [ck_of (by omega) hn]; simp), ht]
theorem meas_up {m i : Nat} {a b : Value} (ha : intOf a = ((i + 1 : Nat) : Int)) (hb : intOf b = (i : Int)) (h : i < m) : m - (intOf a).toNat < m - (intOf b).toNat := by rw [ha, hb]; omega
theorem meas_dn {j : Nat} {a b : Value} (ha : intOf a = (j : Int) - 1) (hb : intOf b = (j : Int)) : (intOf a + 1).toNat < (intOf b + 1).toNat := by rw [ha, hb]; omega
theorem u8_of {n : Nat} (h : n < 256) : u8v (UInt8.ofNat n) = .int .u8 (n : Int) := by unfold u8v; rw [iu8_ofNat n h]
theorem infoSlice : (Tryd.prog.info? 44).map (fun i => (i.zero, i.size, i.bytes)) = some (some (.slice none 0 0), 1, 24) := by kernel_rfl
end Go.Proofs.YthfdjemlibecgaaDoor

/- GridKnown: the chapter's examples. Condition: the library's table is there. -/
namespace Go.Proofs.YthfdjemlibecgaaDoor
open Go.RowKit
theorem setOk_all {L : List Nat} (h1 : L.length ≤ 512) (h2 : L.all (fun x => decide (x ≤ 2)) = true) : SetOk L := ⟨h1, fun i => by
  rw [List.getD_eq_getElem?_getD]
  cases h : L[i]? with
  | none => simp
  | some x => simpa using List.all_eq_true.1 h2 x (List.mem_of_getElem? h)⟩
theorem known_tail : turnCode g43.L 1 1 = 0 ∧ turnL g43.L 1 1 2 = [2, 1, 0, 0] ∧ cnt [2, 1, 1, 0] 4 = 1 ∧ setl [2, 1, 1, 0] = [0, 1, 1, 0] := by decide
theorem known_put {d : Dsk} (h : Two d) : ∃ d3 d4, gput ⟨4, [2, 1, 0, 0], [(1, 8, ())]⟩ d none 3 [] [99] 8 = ((0, (3, 8, ())), ⟨4, [2, 1, 1, 0], [(1, 8, ())]⟩, d3, none) ∧
    gput ⟨4, [0, 1, 1, 0], [(1, 8, ())]⟩ d3 none 3 [] [99] 9 = ((0, (1, 9, ())), ⟨4, [1, 1, 1, 0], [(1, 8, ())]⟩, d4, none) ∧ Rm d4 4 ∧ d4.N = d.N := by
  obtain ⟨d3, e3, r3, n3, b3, o3⟩ := gput_ok (g := ⟨4, [2, 1, 0, 0], [(1, 8, ())]⟩) (k := 3) (s := 8) (l := []) (m := [99]) h.rm rfl (setOk_all (by decide) (by decide)) (by decide) (by decide)
  obtain ⟨d4, e4, r4, n4, b4, o4⟩ := gput_ok (g := ⟨4, [0, 1, 1, 0], [(1, 8, ())]⟩) (k := 3) (s := 9) (l := []) (m := [99]) r3 rfl (setOk_all (by decide) (by decide)) (by decide) (by decide)
  exact ⟨d3, d4, e3, e4, r4, n4.trans n3⟩
theorem look_five {d : Dsk} {g : Grd} (ho : d.out = false) (hn : g.n = 4) : glook g d none (5, 0, ()) = (2, none, g) := by
  unfold glook
  rw [if_neg (by unfold Dsk.isOut; rw [ho]; simp), if_pos (by unfold Grd.of; rw [hn]; decide)]
set_option maxRecDepth 100000 in
set_option maxHeartbeats 8000000 in
theorem lgridKnown_any (w : World) (hT : Tab w) : Calls Tryd.prog 4 #[] w fun e w' => e = .returned (.bool true) ∧ Below w.heap.size w w' := by
  have hz := zeroGBrun
  have H0 := Lib.hid hT
  clear hT
  go_enter Tryd.func4, Tryd.ntmps4
  go_wp2_with fail
  refine (ltwo_any w H0.out).mono ?_
  rintro e w1 ⟨gp, dp, d, rfl, hG, hTwo, hB⟩
  obtain ⟨d1, ht1, hN1, hTwo1⟩ := two_turn hTwo
  obtain ⟨d2, hi2, hTwo2⟩ := inst_one hTwo1
  obtain ⟨d3, d4, hp3, hp4, hr4, hN4⟩ := known_put hTwo2
  replace hN4 := hN4.trans hTwo2.n120
  have HP := Lib.hid (And.intro hTwo (And.intro ht1 (And.intro hTwo1 (And.intro hi2 (And.intro hTwo2 (And.intro hp3 (And.intro hp4 (And.intro hr4 (And.intro hN1 hN4)))))))))
  have H1 := Lib.hid (And.intro (GX.of_GL hG hB.size) hB)
  clear hN1 hG hB hTwo ht1 hTwo1 hi2 hTwo2 hp3 hp4 hr4 hN4
  go_wp2_with fail
  refine (lawake_any w1 (H0.out.below H1.out.2)).mono ?_
  rintro e w2 ⟨rfl, hbx⟩
  have H2 := Lib.hid (And.intro (H1.out.1.below hbx).1 (H1.out.2.trans (H1.out.1.below hbx).2.bel))
  clear hbx H1
  go_wp2_with fail
  -- Read 1 8
  refine (lref_any 1 8 w2).mono ?_
  rintro e w3 ⟨rfl, hbx⟩
  have H3 := Lib.hid (And.intro (H2.out.1.below hbx).1 (H2.out.2.trans (H2.out.1.below hbx).2.bel))
  clear hbx H2
  go_wp2_with fail
  refine (xread H3.out.1 (by decide) (1, 8, ()) (look_other HP.out.1)).mono ?_
  rintro e w4 ⟨v1, rfl, ⟨v2, A1, c1, BB1, e1, C1, rfl, -⟩, hG, hS⟩
  have H4 := Lib.hid (And.intro hG (H3.out.2.trans hS.bel))
  clear hG hS H3
  go_wp2_with (first
    | ((with_reducible show wpList _ _ _ ((⟨none, _, _, _, _, _⟩ : Oper) :: _) _ _); refine wpList_store_blk (o := ⟨none, _, _, _, _, _⟩) ((Blk.new w4 46 #[.int .i64 0, .int .i64 0, .int .i64 0, .slice none 0 0, .slice none 0 0])) (by rfl) _ _ _ (by rfl) (by rfl) (gbc ((none : Option GBT).getD GB.none_) A1 c1 BB1 e1) (by rfl) (sizeGB) (by rfl) (by rfl) (gbc_one _ _ _ _ _) ?_; intro w5 h5 hu5; have hbx := ((Below.refl w4.heap.size w4).alloc (Nat.le_refl _) (.cells #[.int .i64 0, .int .i64 0, .int .i64 0, .slice none 0 0, .slice none 0 0] 46)).upd hu5 (Nat.le_refl _); have H5 := Lib.hid (And.intro (H4.out.1.below hbx).1 (H4.out.2.trans (H4.out.1.below hbx).2.bel)); clear hu5 hbx h5)
    | fail)
  clear H4
  -- Raw 1 7
  refine (lref_any 1 7 w5).mono ?_
  rintro e w6 ⟨rfl, hbx⟩
  have H6 := Lib.hid (And.intro (H5.out.1.below hbx).1 (H5.out.2.trans (H5.out.1.below hbx).2.bel))
  clear hbx H5
  go_wp2_with fail
  refine (xraw_some H6.out.1 (by decide) (1, 7, ()) (look_one HP.out.1)).mono ?_
  rintro e w7 ⟨y1, rfl, hb1, -, hG, hS⟩
  have H7 := Lib.hid (And.intro hG (And.intro (H6.out.2.trans hS.bel) hb1))
  clear hG hS hb1 H6
  go_wp2_with fail
  -- Raw 2 7
  refine (lref_any 2 7 w7).mono ?_
  rintro e w8 ⟨rfl, hbx⟩
  have H8 := Lib.hid (And.intro (H7.out.1.below hbx).1 (And.intro (H7.out.2.1.trans (H7.out.1.below hbx).2.bel) ((H7.out.1.below hbx).2.same.blk H7.out.2.2 (List.mem_singleton_self _))))
  clear hbx H7
  go_wp2_with fail
  refine (xraw_some H8.out.1 (by decide) (2, 7, ()) (look_two HP.out.1)).mono ?_
  rintro e w9 ⟨y2, rfl, hb2, -, hG, hS⟩
  have hK9 : Blk w9 y1 5 ((GB.bytes gb1).map u8v).toArray ∧ Blk w9 y2 5 ((GB.bytes gb2).map u8v).toArray := ⟨by have h := hS.same.blk H8.out.2.2 (List.mem_singleton_self _); rw [show gblk d (1, 7, ()).fst = GB.bytes gb1 from HP.out.1.one] at h; exact h, by rw [show gblk d (2, 7, ()).fst = GB.bytes gb2 from HP.out.1.two] at hb2; exact hb2⟩
  have H9 := Lib.hid (And.intro hG (And.intro (H8.out.2.1.trans hS.bel) hK9))
  clear hG hS hb2 hK9 H8
  rw [show (gblk d (1, 7, ()).fst).length = 1024 by rw [show gblk d (1, 7, ()).fst = GB.bytes gb1 from HP.out.1.one]; exact GB.bytes_length gb1 (by decide) (by decide), show (gblk d (2, 7, ()).fst).length = 1024 by rw [show gblk d (2, 7, ()).fst = GB.bytes gb2 from HP.out.1.two]; exact GB.bytes_length gb2 (by decide) (by decide)]
  go_wp2_with fail
  -- Turn
  have htn := xturn H9.out.1 104 40 1 HP.out.2.1 HP.out.2.2.2.2.2.2.2.2.1
  rw [show iu8 1 = 1 from rfl] at htn
  refine htn.mono ?_
  rintro e w10 ⟨rfl, hG, hS⟩
  have H10 := Lib.hid (And.intro hG (And.intro (H9.out.2.1.trans hS.bel) (And.intro (hS.same.blk H9.out.2.2.1 (by simp)) (hS.same.blk H9.out.2.2.2 (by simp)))))
  clear htn hG hS H9
  go_wp2_with fail
  -- reaches
  refine (lref_any 2 7 w10).mono ?_
  rintro e w11 ⟨rfl, hbx⟩
  have hS := (H10.out.1.below hbx).2
  have H11 := Lib.hid (And.intro (H10.out.1.below hbx).1 (And.intro (H10.out.2.1.trans hS.bel) (And.intro (hS.same.blk H10.out.2.2.1 (by simp)) (hS.same.blk H10.out.2.2.2 (by simp)))))
  clear hbx hS H10
  go_wp2_with fail
  refine (lref_any 1 7 w11).mono ?_
  rintro e w12 ⟨rfl, hbx⟩
  have hS := (H11.out.1.below hbx).2
  have H12 := Lib.hid (And.intro (H11.out.1.below hbx).1 (And.intro (H11.out.2.1.trans hS.bel) (And.intro (hS.same.blk H11.out.2.2.1 (by simp)) (hS.same.blk H11.out.2.2.2 (by simp)))))
  clear hbx hS H11
  go_wp2_with fail
  have hbl := (Below.refl w12.heap.size w12).alloc (Nat.le_refl _) (.cells #[.int .i64 1, .int .i64 7] 23)
  have hS := (H12.out.1.below hbl).2
  have hG := H12.out.1.add hbl (y := w12.heap.size) (Nat.le_refl _) (by simp)
  have hr13 : Refs (w12.alloc (.cells #[.int .i64 1, .int .i64 7] 23)) (some ⟨w12.heap.size, 0, none⟩) [(1, 7, ())] := Refs.of (reads_new w12 23 [.int .i64 1, .int .i64 7])
  have H13 := Lib.hid (And.intro hG (And.intro (H12.out.2.1.trans hS.bel) (And.intro (hS.same.blk H12.out.2.2.1 (by simp)) (And.intro (hS.same.blk H12.out.2.2.2 (by simp)) hr13))))
  clear hbl hS hG hr13 H12
  generalize w12.alloc (.cells #[.int .i64 1, .int .i64 7] 23) = w13 at H13 ⊢
  refine (lreaches_any H13.out.1 (by decide) (2, 7, ()) (L := [(1, 7, ())]) (by decide) (reach_one HP.out.2.2.1) (some ⟨w12.heap.size, 0, none⟩) 1 1 [(1, 7, ())] rfl H13.out.2.2.2.2 (fun ad e => by cases e; simp)).mono ?_
  rintro e w14 ⟨he, hG, hS⟩
  obtain rfl : e = .returned (.bool true) := by simpa using he
  have H14 := Lib.hid (And.intro hG (And.intro (H13.out.2.1.trans hS.bel) (And.intro (hS.same.blk H13.out.2.2.1 (by simp)) (hS.same.blk H13.out.2.2.2.1 (by simp)))))
  clear he hG hS H13
  go_wp2_with fail
  -- Install
  refine (lref_any 1 7 w14).mono ?_
  rintro e w15 ⟨rfl, hbx⟩
  have hS := (H14.out.1.below hbx).2
  have H15 := Lib.hid (And.intro (H14.out.1.below hbx).1 (And.intro (H14.out.2.1.trans hS.bel) (And.intro (hS.same.blk H14.out.2.2.1 (by simp)) (hS.same.blk H14.out.2.2.2 (by simp)))))
  clear hbx hS H14
  go_wp2_with fail
  refine (xinstall H15.out.1 (by decide) (1, 7, ()) (some ⟨y1, 0, none⟩) 1024 1024 (GB.bytes gb1) (GB.bytes_length gb1 (by decide) (by decide)).symm (Nat.le_refl _) (by omega) H15.out.2.2.1.bytes (fun ad e => by cases e; simp) HP.out.2.2.2.1).mono ?_
  rintro e w16 ⟨rfl, hG, hS⟩
  have H16 := Lib.hid (And.intro hG (And.intro (H15.out.2.1.trans hS.bel) (And.intro (hS.same.blk H15.out.2.2.1 (by simp)) (hS.same.blk H15.out.2.2.2 (by simp)))))
  clear hG hS H15
  go_wp2_with fail
  refine (lref_any 2 7 w16).mono ?_
  rintro e w17 ⟨rfl, hbx⟩
  have hS := (H16.out.1.below hbx).2
  have H17 := Lib.hid (And.intro (H16.out.1.below hbx).1 (And.intro (H16.out.2.1.trans hS.bel) (And.intro (hS.same.blk H16.out.2.2.1 (by simp)) (hS.same.blk H16.out.2.2.2 (by simp)))))
  clear hbx hS H16
  go_wp2_with fail
  refine (lreaches_any H17.out.1 (by decide) (2, 7, ()) (L := []) (by decide) (reach_all HP.out.2.2.2.2.1) none 0 0 [] rfl (fun h => absurd h (by simp)) (fun ad e => by cases e)).mono ?_
  rintro e w18 ⟨he, hG, hS⟩
  obtain rfl : e = .returned (.bool true) := by simpa using he
  have H18 := Lib.hid (And.intro hG (And.intro (H17.out.2.1.trans hS.bel) (And.intro (hS.same.blk H17.out.2.2.1 (by simp)) (hS.same.blk H17.out.2.2.2 (by simp)))))
  clear he hG hS H17
  go_wp2_with fail
  -- Wanted
  refine (xwanted H18.out.1 (by decide)).mono ?_
  rintro e w19 ⟨A3, c3, rfl, hr3, -, hbx⟩
  have hS := (H18.out.1.below hbx).2
  have H19 := Lib.hid (And.intro (H18.out.1.below hbx).1 (And.intro (H18.out.2.1.trans hS.bel) (And.intro (hS.same.blk H18.out.2.2.1 (by simp)) (And.intro (hS.same.blk H18.out.2.2.2 (by simp)) hr3))))
  clear hbx hS hr3 H18
  go_wp2_with fail
  refine (lref_any 1 8 w19).mono ?_
  rintro e w20 ⟨rfl, hbx⟩
  have hbl := (Below.refl w20.heap.size w20).alloc (Nat.le_refl _) (.cells #[.int .i64 1, .int .i64 8] 23)
  have hr21 : Refs (w20.alloc (.cells #[.int .i64 1, .int .i64 8] 23)) (some ⟨w20.heap.size, 0, none⟩) [(1, 8, ())] := Refs.of (reads_new w20 23 [.int .i64 1, .int .i64 8])
  have hb2 := hbx.trans (hbl.mono hbx.size)
  have hS := (H19.out.1.below hb2).2
  have H21 := Lib.hid (And.intro (H19.out.1.below hb2).1 (And.intro (H19.out.2.1.trans hS.bel) (And.intro (hS.same.blk H19.out.2.2.1 (by simp)) (And.intro (hS.same.blk H19.out.2.2.2.1 (by simp)) (And.intro (H19.out.2.2.2.2.below hb2) hr21)))))
  clear hbx hbl hr21 hb2 hS H19
  go_wp2_with fail
  generalize w20.alloc (.cells #[.int .i64 1, .int .i64 8] 23) = w21 at H21 ⊢
  refine (sameRefs_any A3 (some ⟨w20.heap.size, 0, none⟩) 1 1 c3 1 [(1, 8, ())] [(1, 8, ())] rfl rfl (by simp) w21 H21.out.2.2.2.2.1 H21.out.2.2.2.2.2).mono ?_
  rintro e w22 ⟨he, hbx⟩
  obtain rfl : e = .returned (.bool true) := by simpa using he
  have hS := (H21.out.1.below hbx).2
  have H22 := Lib.hid (And.intro (H21.out.1.below hbx).1 (And.intro (H21.out.2.1.trans hS.bel) (hS.same.blk H21.out.2.2.2.1 (by simp))))
  clear he hbx hS H21
  go_wp2_with fail
  -- Install of another one
  refine (lref_any 1 7 w22).mono ?_
  rintro e w23 ⟨rfl, hbx⟩
  have hS := (H22.out.1.below hbx).2
  have H23 := Lib.hid (And.intro (H22.out.1.below hbx).1 (And.intro (H22.out.2.1.trans hS.bel) (hS.same.blk H22.out.2.2 (by simp))))
  clear hbx hS H22
  go_wp2_with fail
  refine (xinstall H23.out.1 (by decide) (1, 7, ()) (some ⟨y2, 0, none⟩) 1024 1024 (GB.bytes gb2) (GB.bytes_length gb2 (by decide) (by decide)).symm (Nat.le_refl _) (by omega) H23.out.2.2.bytes (fun ad e => by cases e; simp) (inst_other HP.out.2.2.2.2.1)).mono ?_
  rintro e w24 ⟨rfl, hG, hS⟩
  have H24 := Lib.hid (And.intro hG (H23.out.2.1.trans hS.bel))
  clear hG hS H23
  go_wp2_with fail
  refine (lref_any 1 7 w24).mono ?_
  rintro e w25 ⟨rfl, hbx⟩
  have hS := (H24.out.1.below hbx).2
  have H25 := Lib.hid (And.intro (H24.out.1.below hbx).1 (H24.out.2.trans hS.bel))
  clear hbx hS H24
  go_wp2_with fail
  have hbl := (Below.refl w25.heap.size w25).alloc (Nat.le_refl _) (.cells #[.int .u8 1, .int .u8 2, .int .u8 3] 5)
  have hG := H25.out.1.add hbl (y := w25.heap.size) (Nat.le_refl _) (by simp)
  have hb26 : Blk (w25.alloc (.cells #[.int .u8 1, .int .u8 2, .int .u8 3] 5)) w25.heap.size 5 (([1, 2, 3] : List UInt8).map u8v).toArray := Blk.new w25 5 #[.int .u8 1, .int .u8 2, .int .u8 3]
  have H26 := Lib.hid (And.intro hG (And.intro (H25.out.2.trans (H25.out.1.below hbl).2.bel) hb26))
  clear hbl hG hb26 H25
  generalize w25.alloc (.cells #[.int .u8 1, .int .u8 2, .int .u8 3] 5) = w26 at H26 ⊢
  refine (xinstall H26.out.1 (by decide) (1, 7, ()) (some ⟨w25.heap.size, 0, none⟩) 3 3 [1, 2, 3] rfl (Nat.le_refl _) (by omega) H26.out.2.2.bytes (fun ad e => by cases e; simp) (inst_short HP.out.2.2.2.2.1)).mono ?_
  rintro e w27 ⟨rfl, hG, hS⟩
  have H27 := Lib.hid (And.intro hG (H26.out.2.1.trans hS.bel))
  clear hG hS H26
  go_wp2_with fail
  refine (lref_any 1 7 w27).mono ?_
  rintro e w28 ⟨rfl, hbx⟩
  have hS := (H27.out.1.below hbx).2
  have H28 := Lib.hid (And.intro (H27.out.1.below hbx).1 (H27.out.2.trans hS.bel))
  clear hbx hS H27
  go_wp2_with fail
  have hrl := xrelease H28.out.1 (1, 7, ()) (by decide) (by decide)
  rw [show turnCode g43.L (1, 7, ()).1 1 = 0 from known_tail.1, show turnL g43.L (1, 7, ()).1 1 2 = [2, 1, 0, 0] from known_tail.2.1] at hrl
  refine hrl.mono ?_
  rintro e w29 ⟨rfl, hG, hS⟩
  have H29 := Lib.hid (And.intro (show GX w.heap.size _ w29 gp dp ⟨4, [2, 1, 0, 0], [(1, 8, ())]⟩ d2 from hG) (H28.out.2.trans hS.bel))
  clear hrl hG hS H28
  go_wp2_with fail
  refine (lref_any 3 8 w29).mono ?_
  rintro e w30 ⟨rfl, hbx⟩
  have hS := (H29.out.1.below hbx).2
  have H30 := Lib.hid (And.intro (H29.out.1.below hbx).1 (H29.out.2.trans hS.bel))
  clear hbx hS H29
  go_wp2_with fail
  refine (lwrites_any H30.out.1.gl H30.out.1.size (H0.out.below H30.out.2) 3 8 none 0 0 [] [99] (3, 8, ()) 0 rfl (by simp) (by simp) (fun h => absurd h (by simp)) (by rw [HP.out.2.2.2.2.2.1])).mono ?_
  rintro e w31 ⟨rfl, hG, hB⟩
  rw [HP.out.2.2.2.2.2.1] at hG
  have H31 := Lib.hid (And.intro (GX.of_GL hG (H30.out.2.trans hB).size) (H30.out.2.trans hB))
  clear hG hB H30
  go_wp2_with fail
  refine (xsettle H31.out.1).mono ?_
  rintro e w32 ⟨rfl, hG, hS⟩
  have H32 := Lib.hid (And.intro (show GX w.heap.size _ w32 gp dp ⟨4, [0, 1, 1, 0], [(1, 8, ())]⟩ d3 from hG) (H31.out.2.trans hS.bel))
  clear hG hS H31
  simp only [show cnt [2, 1, 1, 0] [2, 1, 1, 0].length = 1 from known_tail.2.2.1]
  go_wp2_with fail
  refine (lref_any 1 9 w32).mono ?_
  rintro e w33 ⟨rfl, hbx⟩
  have hS := (H32.out.1.below hbx).2
  have H33 := Lib.hid (And.intro (H32.out.1.below hbx).1 (H32.out.2.trans hS.bel))
  clear hbx hS H32
  go_wp2_with fail
  refine (lwrites_any H33.out.1.gl H33.out.1.size (H0.out.below H33.out.2) 3 9 none 0 0 [] [99] (1, 9, ()) 0 rfl (by simp) (by simp) (fun h => absurd h (by simp)) (by rw [HP.out.2.2.2.2.2.2.1])).mono ?_
  rintro e w34 ⟨rfl, hG, hB⟩
  rw [HP.out.2.2.2.2.2.2.1] at hG
  have H34 := Lib.hid (And.intro (GX.of_GL hG (H33.out.2.trans hB).size) (H33.out.2.trans hB))
  clear hG hB H33
  go_wp2_with fail
  refine (lref_any 5 0 w34).mono ?_
  rintro e w35 ⟨rfl, hbx⟩
  have hS := (H34.out.1.below hbx).2
  have H35 := Lib.hid (And.intro (H34.out.1.below hbx).1 (H34.out.2.trans hS.bel))
  clear hbx hS H34
  go_wp2_with fail
  refine (xread H35.out.1 (by decide) (5, 0, ()) (look_five HP.out.2.2.2.2.2.2.2.1.out rfl)).mono ?_
  rintro e w36 ⟨v1, rfl, ⟨v2, A1, c1, BB1, e1, C1, rfl, -⟩, hG, hS⟩
  have H36 := Lib.hid (And.intro hG (H35.out.2.trans hS.bel))
  clear hG hS H35
  go_wp2_with (first
    | ((with_reducible show wpList _ _ _ ((⟨none, _, _, _, _, _⟩ : Oper) :: _) _ _); refine wpList_store_blk (o := ⟨none, _, _, _, _, _⟩) ((Blk.new w36 46 #[.int .i64 0, .int .i64 0, .int .i64 0, .slice none 0 0, .slice none 0 0])) (by rfl) _ _ _ (by rfl) (by rfl) (gbc ((none : Option GBT).getD GB.none_) A1 c1 BB1 e1) (by rfl) (sizeGB) (by rfl) (by rfl) (gbc_one _ _ _ _ _) ?_; intro w37 h37 hu37; have hbx := ((Below.refl w36.heap.size w36).alloc (Nat.le_refl _) (.cells #[.int .i64 0, .int .i64 0, .int .i64 0, .slice none 0 0, .slice none 0 0] 46)).upd hu37 (Nat.le_refl _); have H37 := Lib.hid (And.intro (H36.out.1.below hbx).1 (H36.out.2.trans (H36.out.1.below hbx).2.bel)); clear hu37 hbx h37)
    | fail)
  clear H36
  obtain ⟨q, hq1, hq2, hq3, hG, -⟩ := H37.out.1
  have hns := gnew_small hG.dk (by unfold Dsk.isOut; rw [HP.out.2.2.2.2.2.2.2.1.out]; rfl) 5 (by omega) (by omega) (by rw [HP.out.2.2.2.2.2.2.2.2.2]; omega)
  rw [hq2] at hns
  refine hns.mono ?_
  rintro e w38 ⟨rfl, hbx⟩
  have H38 := Lib.hid (H37.out.2.trans (hbx.mono H37.out.2.size))
  clear hns hbx hG hq1 hq2 hq3
  go_wp2_with fail
  go_ret
  exact ⟨rfl, H38.out⟩
end Go.Proofs.YthfdjemlibecgaaDoor
