/- Which refs are not there: the grid's Reach. Conditions: the grid is known. -/
import Derived.Test.YthfdjemlibecgaaDoorMFetchWhole15
import Derived.Lib.SliceRun
import Derived.Laws.IdiomCopy
namespace Go.Proofs.YthfdjemlibecgaaDoor
open Go.RowKit
attribute [local go_sem] Oper.semAt_some
theorem OwnsC.keptW {e : TypeId} {size base n B : Nat} {w w' : World} {v : Value} {xs sp : List Value} (h : OwnsC e size w base v n xs sp) (k : Kept B w w') : OwnsC e size w' base v n xs sp := by
  rcases h with h | ⟨g, cap, rfl, hb, hgg, rest⟩
  · exact .inl h
  · exact .inr ⟨g, cap, rfl, hb, hgg.keptW k, rest⟩
theorem GridR.keptW {w w' : World} {q : GPl} {g : Grd} {d : Dsk} {f : Option Fus} {B : Nat} (h : GridR w q g d f) (k : Kept B w w') (h1 : q.p.gm < B) (h2 : q.gi < B) : GridR w' q g d f := by
  obtain ⟨wv, sp, k1, k2, k3⟩ := h.wn
  exact ⟨h.dk.keptW k h1, h.st.keptW k, h.mp.keptW k h2, ⟨wv, sp, k1, k2.keptW k, OwnsC.keptW k3 k⟩, h.ok, h.ne⟩
theorem ownOf {e : TypeId} {size base n : Nat} {w : World} {ad : Addr} {c : Nat} {xs sp : List Value} (h : OwnsC e size w base (.slice (some ad) n c) n xs sp) : (Value.slice (some ad) n c).ownBlock = some ad.block := by
  rcases h with ⟨h, _⟩ | ⟨g, cap, h, -⟩
  · cases h
  · injection h with h1 h2 h3
    injection h1 with h1
    subst h1; rfl
/-- What Reach leaves: the grid, and where its answer lies. -/
def RPost (w : World) (q : GPl) (A : Option Addr) (g : Grd) (d : Dsk) (f : Option Fus) (w' : World) : Prop :=
  ∃ q' : GPl, q'.gg = q.gg ∧ q'.p = q.p ∧ q'.gf = q.gf ∧ GridR w' q' g d f ∧ Near q.all w w' ∧ (∀ x ∈ q'.all, x ∈ q.all ∨ w.heap.size ≤ x) ∧ ∀ ad, A = some ad → w.heap.size ≤ ad.block ∧ ad.block ∉ q'.all
def gitem (g : Grd) (d : Dsk) (root : RefT) (i : Nat) : RefT := (gwalk g d root)[i]?.getD (0, 0, ())
/-- What stands when some refs have been told. -/
structure RhIn (w : World) (S : Nat) (q : GPl) (g : Grd) (d : Dsk) (f : Option Fus) (root : RefT) (M L : List RefT) (Q : GPl) (ov : Value) (sp : List Value) (W : World) : Prop where
  sz : w.heap.size + 2 ≤ S
  b0 : Blk W w.heap.size 25 #[.pointer (some ⟨q.gg, 0, none⟩)]
  b2 : Blk W S 29 #[ov]
  b3 : Blk W (S + 1) 25 #[.pointer (some ⟨q.gg, 0, none⟩)]
  b4 : Blk W (S + 2) 23 #[.int .i64 root.1, .int .i64 root.2.1]
  eg : Q.gg = q.gg ∧ Q.p = q.p ∧ Q.gf = q.gf ∧ Q.gi = q.gi ∧ Q.gs = q.gs
  gr : GridR W Q (g.wants M) d f
  near : Near q.all w W
  new : ∀ x ∈ Q.all, x ∈ q.all ∨ S + 3 ≤ x
  own : OwnsC 23 2 W (S + 3) ov L.length (refCells L) sp
  off : ∀ x, ov.ownBlock = some x → x ∉ Q.all
def RhAt (w : World) (S : Nat) (q : GPl) (g : Grd) (d : Dsk) (f : Option Fus) (root : RefT) (k : Nat) (X : List Nat) (W : World) : Prop :=
  ∃ Q ov sp, RhIn w S q g d f root (gsome g d root k) (gsome g d root k) Q ov sp W ∧ X = Q.gw.toList ++ ov.ownBlock.toList
section
variable {w W W' : World} {q Q : GPl} {g : Grd} {d : Dsk} {f : Option Fus} {root : RefT} {M L : List RefT} {ov : Value} {sp : List Value} {S : Nat}
theorem RhIn.keptW {B : Nat} (h : RhIn w S q g d f root M L Q ov sp W) (k : Kept B W W') (hB : S + 3 ≤ B) (hlt : ∀ x ∈ q.all, x < w.heap.size) : RhIn w S q g d f root M L Q ov sp W' := by
  have h0 := h.sz
  have h1 : Q.p.gm < B := by rw [h.eg.2.1]; have := hlt q.p.gm (GPl.mem.2 (by simp [Pl.all])); omega
  have h2 : Q.gi < B := by rw [h.eg.2.2.2.1]; have := hlt q.gi (GPl.mem.2 (by simp)); omega
  exact ⟨h.sz, h.b0.keptW k, h.b2.keptW k, h.b3.keptW k, h.b4.keptW k, h.eg, h.gr.keptW k h1 h2, h.near.keptW k (by omega), h.new, OwnsC.keptW h.own k, h.off⟩
theorem RhIn.below (h : RhIn w S q g d f root M L Q ov sp W) (k : Below W.heap.size W W') : RhIn w S q g d f root M L Q ov sp W' :=
  ⟨h.sz, h.b0.below k h.b0.lt, h.b2.below k h.b2.lt, h.b3.below k h.b3.lt, h.b4.below k h.b4.lt, h.eg, h.gr.below k, h.near.trans (Near.below k), h.new, h.own.ownBelow k, h.off⟩
theorem RhIn.lt (h : RhIn w S q g d f root M L Q ov sp W) : ∀ x ∈ Q.gw.toList ++ ov.ownBlock.toList, x < W.heap.size := fun x hx => by
  rcases List.mem_append.1 hx with hx | hx
  · exact h.gr.lt x (GPl.mem.2 (.inr (.inr (.inr (.inl (Option.mem_toList.1 hx))))))
  · exact (OwnsC.lt h.own x (Option.mem_toList.1 hx)).2
theorem RhIn.at_ (h : RhIn w S q g d f root M L Q ov sp W) (ho : d.isOut f = false) : GAt q.gg (S + 1) g d W ∧ Blk W (S + 2) 23 #[.int .i64 root.1, .int .i64 root.2.1] :=
  ⟨⟨h.b3, Q, _, f, h.gr, h.eg.1, Grd.wants_n M g, ho⟩, h.b4⟩
theorem RhIn.offQ (h : RhIn w S q g d f root M L Q ov sp W) (hlt : ∀ x ∈ q.all, x < w.heap.size) {x : Nat} (h1 : w.heap.size ≤ x) (h2 : x < S + 3) : x ∉ Q.all := fun hm => (h.new x hm).elim (fun k => by have := hlt x k; omega) fun k => by omega
theorem gw_grown {Q' : GPl} {B : Nat} (ap : GApart Q') (eg : Q'.gg = Q.gg ∧ Q'.p = Q.p ∧ Q'.gf = Q.gf ∧ Q'.gi = Q.gi ∧ Q'.gs = Q.gs) (hn : ∀ x ∈ Q'.all, x ∈ Q.all ∨ B ≤ x) : ∀ x, Q'.gw = some x → Q.gw = some x ∨ B ≤ x := fun x hx => by
  rcases hn x (GPl.mem.2 (.inr (.inr (.inr (.inl hx))))) with h | h
  · obtain ⟨k1, k2, k3⟩ := ap.wo x hx
    have k4 := ap.w x hx
    rcases GPl.mem.1 h with e | e | e | e | e
    · exact absurd (e.trans eg.1.symm) k1
    · exact absurd (e.trans eg.2.2.2.2.symm) k2
    · exact absurd (e.trans eg.2.2.2.1.symm) k3
    · exact .inl e
    · rw [← eg.2.1, ← eg.2.2.1] at e; exact absurd e k4
  · exact .inr h
/-- The list of what is told has grown by one. -/
theorem RhIn.told {W4 : World} {Q : GPl} {ov v4 : Value} {sp4 : List Value} {r : RefT} (h : RhIn w S q g d f root M L Q ov sp W) (k : Near ov.ownBlock.toList W W4) (ho : OwnsC 23 2 W4 (S + 3) v4 (L ++ [r]).length (refCells (L ++ [r])) sp4) (hv : v4.ownBlock = ov.ownBlock ∨ ∃ x, v4.ownBlock = some x ∧ W.heap.size ≤ x) (hlt : ∀ x ∈ q.all, x < w.heap.size) :
    RhIn w S q g d f root M (L ++ [r]) Q v4 sp4 (W4.setCell ⟨S, 0, none⟩ v4) := by
  have hu : Near [S] W4 (W4.setCell ⟨S, 0, none⟩ v4) := Near.upd ((Upd.refl _ _).set 0 _) (List.mem_singleton_self _)
  have hob : ∀ x, ov.ownBlock = some x → S + 3 ≤ x ∧ x < W.heap.size := OwnsC.lt h.own
  have hn : ∀ x, x < S + 3 → x ∉ ov.ownBlock.toList := fun x hx hm => by have := (hob x (Option.mem_toList.1 hm)).1; omega
  have hvb : ∀ x, v4.ownBlock = some x → S + 3 ≤ x := fun x hx => (OwnsC.lt ho x hx).1
  have hQ : ∀ x ∈ Q.all, x ∉ ov.ownBlock.toList := fun x hx hm => h.off x (Option.mem_toList.1 hm) hx
  have hQS : ∀ x ∈ Q.all, x ∉ [S] := fun x hx hm => by rw [List.mem_singleton.1 hm] at hx; exact h.offQ hlt (by have := h.sz; omega) (by omega) hx
  have hsz := h.sz
  have ne : ∀ x, x ≠ S → x ∉ [S] := fun x hx hm => hx (List.mem_singleton.1 hm)
  refine ⟨h.sz, (h.b0.near k (hn _ (by omega))).near hu (ne _ (by omega)), ((h.b2.near k (hn _ (by omega))).set_ 0 v4).sub (by simp), (h.b3.near k (hn _ (by omega))).near hu (ne _ (by omega)), (h.b4.near k (hn _ (by omega))).near hu (ne _ (by omega)), h.eg, (h.gr.near k hQ).near hu hQS, ?_, h.new, OwnsC.nearO ho hu (fun x hx => ne _ (by have := hvb x hx; omega)), fun x hx => ?_⟩
  · exact (h.near.high k (fun x hx => by have := (hob x (Option.mem_toList.1 hx)).1; omega)).high hu (fun x hx => by rw [List.mem_singleton.1 hx]; omega)
  · rcases hv with e | ⟨y, e, hy⟩
    · exact h.off x (e.symm.trans hx)
    · rw [hx] at e; injection e with e
      subst e
      exact fun hm => by have := h.gr.lt x hm; omega
theorem RhIn.grid {M' : List RefT} (h : RhIn w S q g d f root M L Q ov sp W) (e : g.wants M' = g.wants M) : RhIn w S q g d f root M' L Q ov sp W :=
  ⟨h.sz, h.b0, h.b2, h.b3, h.b4, h.eg, by rw [e]; exact h.gr, h.near, h.new, h.own, h.off⟩
/-- One more is wanted. -/
theorem RhIn.wanted {M' : List RefT} {Q' : GPl} {r : RefT} (h : RhIn w S q g d f root M L Q ov sp W) (e : g.wants M' = (g.wants M).want r) (hlt : ∀ x ∈ q.all, x < w.heap.size)
    (eg : Q'.gg = Q.gg ∧ Q'.p = Q.p ∧ Q'.gf = Q.gf ∧ Q'.gi = Q.gi ∧ Q'.gs = Q.gs) (hG : GridR W' Q' ((g.wants M).want r) d f) (k : Near Q.all W W') (hn : ∀ x ∈ Q'.all, x ∈ Q.all ∨ W.heap.size ≤ x) : RhIn w S q g d f root M' L Q' ov sp W' := by
  have hsz := h.sz
  have hs4 := h.b4.lt
  have off : ∀ x, w.heap.size ≤ x → x < S + 3 → x ∉ Q.all := fun x h1 h2 => h.offQ hlt h1 h2
  refine ⟨h.sz, h.b0.near k (off _ (by omega) (by omega)), h.b2.near k (off _ (by omega) (by omega)), h.b3.near k (off _ (by omega) (by omega)), h.b4.near k (off _ (by omega) (by omega)), ⟨eg.1.trans h.eg.1, eg.2.1.trans h.eg.2.1, eg.2.2.1.trans h.eg.2.2.1, eg.2.2.2.1.trans h.eg.2.2.2.1, eg.2.2.2.2.trans h.eg.2.2.2.2⟩, by rw [e]; exact hG, Near.mix h.near k (fun y hy => (h.new y hy).imp id fun h => by omega), fun x hx => ?_, OwnsC.nearO h.own k h.off, fun x hx hm => ?_⟩
  · rcases hn x hx with h1 | h1
    · exact h.new x h1
    · exact .inr (by omega)
  · rcases hn x hm with h1 | h1
    · exact h.off x hx h1
    · have := (OwnsC.lt h.own x hx).2; omega
/-- What the body may write: the list's block and the lists' own. -/
theorem RhIn.low (h : RhIn w S q g d f root M L Q ov sp W) (hlt : ∀ x ∈ q.all, x < w.heap.size) : ∀ x ∈ Q.all, x < S + 3 ∨ x ∈ Q.gw.toList ++ ov.ownBlock.toList := fun x hx => by
  have h0 := h.sz
  have key : ∀ y ∈ q.all, y < S + 3 := fun y hy => by have := hlt y hy; omega
  rcases GPl.mem.1 hx with e | e | e | e | e
  · rw [e, h.eg.1]; exact .inl (key _ (GPl.mem.2 (by simp)))
  · rw [e, h.eg.2.2.2.2]; exact .inl (key _ (GPl.mem.2 (by simp)))
  · rw [e, h.eg.2.2.2.1]; exact .inl (key _ (GPl.mem.2 (by simp)))
  · exact .inr (by rw [e]; simp)
  · rw [h.eg.2.1, h.eg.2.2.1] at e
    exact .inl (key _ (GPl.mem.2 (.inr (.inr (.inr (.inr e))))))
end
set_option maxRecDepth 100000 in
set_option maxHeartbeats 8000000 in
theorem greach_any {w : World} {q : GPl} {g : Grd} {d : Dsk} {f : Option Fus} (h : GridR w q g d f) (hlen : g.W.length ≤ 1000000000) (root : RefT) :
    Calls Tryd.prog 43 #[.pointer (some ⟨q.gg, 0, none⟩), .agg #[.int .i64 root.1, .int .i64 root.2.1]] w fun e w' =>
      ∃ A c, e = .returned (.tuple #[.slice A (greach g d f root).2.1.length c, .int .i64 (greach g d f root).1]) ∧ Refs w' A (greach g d f root).2.1 ∧ (greach g d f root).2.1.length ≤ c ∧ c ≤ 9223372036854775807 ∧ RPost w q A (greach g d f root).2.2 d f w' := by
  have hB := ((Below.refl w.heap.size w).alloc (Nat.le_refl _) (.cells #[.pointer (some ⟨q.gg, 0, none⟩)] 25)).alloc (by simp) (.cells #[.int .i64 root.1, .int .i64 root.2.1] 23)
  have hb0 := (Blk.new w 25 #[.pointer (some ⟨q.gg, 0, none⟩)]).alloc (.cells #[.int .i64 root.1, .int .i64 root.2.1] 23)
  have hb1 := Blk.new' (w.alloc (.cells #[.pointer (some ⟨q.gg, 0, none⟩)] 25)) 23 #[.int .i64 root.1, .int .i64 root.2.1] (n := w.heap.size + 1) (by simp)
  have hz2 : ((w.alloc (.cells #[.pointer (some ⟨q.gg, 0, none⟩)] 25)).alloc (.cells #[.int .i64 root.1, .int .i64 root.2.1] 23)).heap.size = w.heap.size + 2 := by simp
  have H0 := Lib.hid (And.intro h (And.intro hlen (And.intro hB (And.intro hb0 (And.intro hb1 (And.intro h.lt (And.intro h.ok.h512 hz2)))))))
  clear h hlen hB hb0 hb1 hz2
  refine callsIn_wide (n := 3).1 ?_
  refine callsIn_of_wp_marks Tryd.func43 rfl trivial ?_ rfl
  simp only [Tryd.ntmps43, List.size_toArray, List.length_cons, List.length_nil, Nat.reduceAdd, Nat.reduceSub, Array.replicate_succ, Array.replicate_zero, List.push_toArray, List.append_toArray, List.nil_append, List.cons_append]
  refine wpIn_wide.2 ?_
  go_wp2_with fail
  generalize ((w.alloc (.cells #[.pointer (some ⟨q.gg, 0, none⟩)] 25)).alloc (.cells #[.int .i64 root.1, .int .i64 root.2.1] 23)) = w2 at H0 ⊢
  have hG2 := H0.out.1.below H0.out.2.2.1
  have d0 := H0.out.2.2.2.1.at_ 0 (v := .pointer (some ⟨q.gg, 0, none⟩)) rfl
  have hbr := H0.out.2.2.2.2.1
  refine (gready_any hG2).mono ?_
  rintro e w2' ⟨rfl, hw⟩
  obtain rfl := hw.symm
  clear hw
  by_cases hq : d.isOut f = true
  · have HL : Hid (greach g d f root = (11, [], g)) := Lib.hid (if_pos hq)
    rw [if_pos hq]
    clear hq hG2 d0 hbr
    go_wp2
    refine ⟨_, results_tmp2 (by rfl) _ _ _, ?_⟩
    rw [HL.out]
    exact ⟨none, 0, rfl, fun h => absurd h (by simp), Nat.le_refl _, by omega, q, rfl, rfl, rfl, H0.out.1.below H0.out.2.2.1, Near.below H0.out.2.2.1, fun _ hx => .inl hx, fun ad e => by cases e⟩
  rw [if_neg hq]
  have HQ := Lib.hid (show d.isOut f = false by simpa using hq)
  clear hq
  go_wp2_with (first
    | ((with_reducible show wpList _ _ _ ((⟨some 16, _, _, _, _, _⟩ : Oper) :: _) _ _); refine wpList_load_blk (o := ⟨some 16, _, _, _, _, _⟩) (hbr) (by rfl) _ _ (by rfl) (by rfl) _ Tryd.underlying23 (by rfl) (size_ref) (by rfl) ?_)
    | fail)
  refine (gof_any hG2 root).mono ?_
  rintro e w3 ⟨rfl, hbx⟩
  have hB3 := H0.out.2.2.1.trans (hbx.mono H0.out.2.2.1.size)
  have hb0 := H0.out.2.2.2.1.below hbx H0.out.2.2.2.1.lt
  have hb1 := H0.out.2.2.2.2.1.below hbx H0.out.2.2.2.2.1.lt
  have hsz3 := hbx.size
  have H3 := Lib.hid (And.intro hB3 (And.intro hb0 (And.intro hb1 hsz3)))
  clear hbx hbr hB3 hG2 hb0 hb1 d0 hsz3
  by_cases ho : g.of root = true
  case neg =>
    have ho' : g.of root = false := by simpa using ho
    have HL : Hid (greach g d f root = (2, [], g)) := Lib.hid (by unfold greach; rw [if_neg (by rw [HQ.out]; simp), if_pos ho'])
    rw [ho']
    clear ho ho'
    go_wp2
    refine ⟨_, results_tmp2 (by rfl) _ _ _, ?_⟩
    rw [HL.out]
    exact ⟨none, 0, rfl, fun h => absurd h (by simp), Nat.le_refl _, by omega, q, rfl, rfl, rfl, H0.out.1.below H3.out.1, Near.below H3.out.1, fun _ hx => .inl hx, fun ad e => by cases e⟩
  have HL : Hid (greach g d f root = (0, gmiss g d root, g.wants (gmiss g d root))) := Lib.hid (by unfold greach; rw [if_neg (by rw [HQ.out]; simp), if_neg (by rw [ho]; simp)])
  rw [ho]
  clear ho
  have hbl4 := (Below.refl w3.heap.size w3).alloc (Nat.le_refl _) (.cells #[.slice none 0 0] 29)
  have hbr := H3.out.2.2.1.below hbl4 H3.out.2.2.1.lt
  have d0 := (H3.out.2.1.below hbl4 H3.out.2.1.lt).at_ 0 (v := .pointer (some ⟨q.gg, 0, none⟩)) rfl
  clear hbl4
  go_wp2_with (first
    | ((with_reducible show wpList _ _ _ ((⟨some 20, _, _, _, _, _⟩ : Oper) :: _) _ _); refine wpList_load_blk (o := ⟨some 20, _, _, _, _, _⟩) (hbr) (by rfl) _ _ (by rfl) (by rfl) _ Tryd.underlying23 (by rfl) (size_ref) (by rfl) ?_)
    | fail)
  refine (reached_any q.gg root _).mono ?_
  rintro e w6 ⟨rfl, rfl⟩
  have eb : (w3.alloc (.cells #[.slice none 0 0] 29)).heap.size = w3.heap.size + 1 := by simp
  have hsz := H0.out.2.2.2.2.2.2.2
  have h6b := (((Below.refl w3.heap.size w3).alloc (Nat.le_refl _) (.cells #[.slice none 0 0] 29)).alloc (by simp) (.cells #[.pointer (some ⟨q.gg, 0, none⟩)] 25)).alloc (by simp; omega) (.cells #[.int .i64 root.1, .int .i64 root.2.1] 23)
  have hS : RhIn w w3.heap.size q g d f root [] [] q (.slice none 0 0) [] (((w3.alloc (.cells #[.slice none 0 0] 29)).alloc (.cells #[.pointer (some ⟨q.gg, 0, none⟩)] 25)).alloc (.cells #[.int .i64 root.1, .int .i64 root.2.1] 23)) :=
    ⟨by have := H3.out.2.2.2; omega, H3.out.2.1.below h6b H3.out.2.1.lt, ((Blk.new w3 _ _).alloc _).alloc _, (Blk.new' _ _ _ (by simp)).alloc _, Blk.new' _ _ _ (by simp), ⟨rfl, rfl, rfl, rfl, rfl⟩, (H0.out.1.below H3.out.1).below h6b, Near.below (H3.out.1.trans (h6b.mono H3.out.1.size)), fun _ hx => .inl hx, OwnsC.nil _ _ _ _, fun _ e => by cases e⟩
  have hz6 : (((w3.alloc (.cells #[.slice none 0 0] 29)).alloc (.cells #[.pointer (some ⟨q.gg, 0, none⟩)] 25)).alloc (.cells #[.int .i64 root.1, .int .i64 root.2.1] 23)).heap.size = w3.heap.size + 3 := by simp
  rw [eb]
  simp only [show w3.heap.size + 1 + 1 = w3.heap.size + 2 from rfl]
  generalize (((w3.alloc (.cells #[.slice none 0 0] 29)).alloc (.cells #[.pointer (some ⟨q.gg, 0, none⟩)] 25)).alloc (.cells #[.int .i64 root.1, .int .i64 root.2.1] 23)) = w6 at hS hz6 ⊢
  generalize w3.heap.size = S at hS hz6 ⊢
  have H6 := Lib.hid (And.intro hS hz6)
  have HA := Lib.hid (And.intro H0.out.1 (And.intro H0.out.2.1 (And.intro H0.out.2.2.2.2.2.1 H0.out.2.2.2.2.2.2.1)))
  clear hS hz6 eb h6b hsz hbr d0 H3 H0
  go_wp2_with fail
  refine wpIn_wide (n := 3).1 ?_
  refine wpIn_rangeRowY rfl (by omega) (gf := 144) (lb := #[.pointer (some ⟨S + 1, 0, none⟩), .pointer (some ⟨S + 2, 0, none⟩)]) rfl trivial (enters_of Tryd.func144 (by kernel_rfl) rfl)
    (encR g d (gitem g d root)) (fun _ => rfl) (gwalk g d root).length (fun k X W => RhAt w S q g d f root k X W) (fun _ _ => False)
    (fun k X W h => ?hIX) (fun k X W W' h kw => ?hI) (fun _ _ _ h _ => h) ⟨q, .slice none 0 0, [], H6.out.1, rfl⟩ ?row ?round ?done (fun _ _ _ _ h => h.elim)
  case hIX =>
    obtain ⟨Q, ov, sp, h1, rfl⟩ := h
    exact h1.lt
  case hI =>
    obtain ⟨Q, ov, sp, h1, h2⟩ := h
    exact ⟨Q, ov, sp, h1.keptW kw (by rw [H6.out.2]; exact Nat.le_refl _) HA.out.2.2.1, h2⟩
  case row =>
    refine reached_row 2 (by omega) q.gg (S + 1) (S + 2) g d root _ (fun i x hx => by unfold gitem; rw [hx]; rfl) _ fun k X W h => ?_
    obtain ⟨Q, ov, sp, h1, h2⟩ := h
    exact h1.at_ HQ.out
  case round =>
    intro l k X W hl1 hl2 hI hk
    obtain ⟨Q, ov, sp, h1, rfl⟩ := hI
    have hs := gsome_succ hk
    have hle := gsome_len g d root k
    unfold encR
    rw [show gitem g d root k = (gwalk g d root)[k] by unfold gitem; rw [List.getElem?_eq_getElem hk]; rfl]
    generalize (gwalk g d root)[k] = r at hs ⊢
    have hzr := zeroRefrun
    have HI := Lib.hid (And.intro h1 (And.intro hle hs))
    clear h1 hle hs hk
    cases hgk : gok g d r
    case true =>
      rw [hgk, if_pos rfl] at HI
      gi_wp2_with (first
        | ((with_reducible show wpListIn _ _ _ _ _ ((⟨none, _, _, _, _, _⟩ : Oper) :: _) _ _); refine wpListIn_of (by rfl) ?_; refine wpList_store_blk (o := ⟨none, _, _, _, _, _⟩) ((Blk.new W 23 #[.int .i64 0, .int .i64 0])) (by rfl) _ _ _ (by rfl) (by rfl) (#[.int .i64 r.1, .int .i64 r.2.1]) (by rfl) (size_ref) (by rfl) (by rfl) (by simp [Value.oneCell']) ?_; intro W5 h5 hu5; refine ⟨rfl, ?_⟩)
        | fail)
      refine ⟨((Below.refl _ _).alloc (Nat.le_refl _) _).upd hu5 (Nat.le_refl _), fun W6 hW6 => ?_⟩
      have hn5 := ((Below.refl W.heap.size W).alloc (Nat.le_refl _) (.cells #[.int .i64 0, .int .i64 0] 23)).upd hu5 (Nat.le_refl _)
      have hI6 := (HI.out.1.below hn5).keptW hW6 (by rw [H6.out.2]; exact Nat.le_refl _) HA.out.2.2.1
      have HI6 := Lib.hid hI6
      clear h5 hu5 hn5 hI6 hW6
      gi_wp2_with fail
      exact ⟨Young.near (Near.refl [] _) (by simp), _, ⟨Q, ov, sp, by rw [HI.out.2.2]; exact HI6.out, rfl⟩, Grown.refl _ _⟩
    case false =>
      rw [hgk, if_neg (by simp)] at HI
      obtain ⟨B, c, hov, hc, hc2, -, -⟩ := OwnsC.reads HI.out.1.own
      subst hov
      clear hc hc2
      gi_wp2_with (first
        | ((with_reducible show wpListIn _ _ _ _ _ ((⟨none, _, _, _, _, _⟩ : Oper) :: _) _ _); refine wpListIn_of (by rfl) ?_; refine wpList_store_blk (o := ⟨none, _, _, _, _, _⟩) ((Blk.new W 23 #[.int .i64 0, .int .i64 0])) (by rfl) _ _ _ (by rfl) (by rfl) (#[.int .i64 r.1, .int .i64 r.2.1]) (by rfl) (size_ref) (by rfl) (by rfl) (by simp [Value.oneCell']) ?_; intro W5 h5 hu5; refine ⟨rfl, ?_⟩)
        | fail)
      refine ⟨((Below.refl _ _).alloc (Nat.le_refl _) _).upd hu5 (Nat.le_refl _), fun W6 hW6 => ?_⟩
      have hn5 := ((Below.refl W.heap.size W).alloc (Nat.le_refl _) (.cells #[.int .i64 0, .int .i64 0] 23)).upd hu5 (Nat.le_refl _)
      have hI6 := (HI.out.1.below hn5).keptW hW6 (by rw [H6.out.2]; exact Nat.le_refl _) HA.out.2.2.1
      have h6 : Blk W6 W.heap.size 23 #[.int .i64 r.1, .int .i64 r.2.1] := h5.keptW hW6
      have hgx := HI.out.1.lt
      have hgr := HI.out.1.gr.lt
      have hgs : S + 3 ≤ W.heap.size := by have := H6.out.2; omega
      have HI6 := Lib.hid (And.intro hI6 (And.intro h6 (And.intro hgx (And.intro hgr (And.intro hgs HI.out.2)))))
      clear h5 hu5 hn5 hI6 hW6 hgx hgr hgs HI hl1 hl2
      generalize W.heap.size = gx at HI6 h6 ⊢
      have hbl := (Below.refl W6.heap.size W6).alloc (Nat.le_refl _) (.cells #[.int .i64 r.1, .int .i64 r.2.1] 23)
      have hra : Reads (W6.alloc (.cells #[.int .i64 r.1, .int .i64 r.2.1] 23)) (some ⟨W6.heap.size, 0, none⟩) [.int .i64 r.1, .int .i64 r.2.1] := reads_new W6 23 [.int .i64 r.1, .int .i64 r.2.1]
      have hoa := Lib.hid (And.intro (OwnsC.ownBelow HI6.out.1.own hbl) (And.intro hra hbl))
      have d2 := HI6.out.1.b2.at_ 0 (v := .slice B (gsome g d root k).length c) rfl
      clear hra hbl
      gi_wp2_with (first
        | ((with_reducible show wpListIn _ _ _ _ _ ((⟨some 26, _, _, _, _, _⟩ : Oper) :: _) _ _); refine wpListIn_of (by rfl) ?_; refine wpList_load_blk (o := ⟨some 26, _, _, _, _, _⟩) (h6) (by rfl) _ _ (by rfl) (by rfl) _ Tryd.underlying23 (by rfl) (size_ref) (by rfl) ?_; refine ⟨rfl, ?_⟩)
        | ((with_reducible show wpListIn _ _ _ _ _ ((⟨some 28, _, _, _, _, _⟩ : Oper) :: _) _ _); refine wpListIn_round (by rfl) ?_; refine wpList_append_vals (o := ⟨some 28, _, _, _, _, _⟩) (by rfl) _ _ _ (by rfl) (S + 3) 23 (.agg #[.int .i64 0, .int .i64 0]) 2 16 Tryd.underlying29 infoRef (by rfl) (by omega) (.slice B (gsome g d root k).length c) (gsome g d root k).length (refCells (gsome g d root k)) sp (by rfl) hoa.out.1 (some ⟨W6.heap.size, 0, none⟩) 1 1 [.int .i64 r.1, .int .i64 r.2.1] (by rfl) (by rfl) hoa.out.2.1 (by simp [Value.oneCell']) (by have := HI6.out.2.2.2.2.2.1; have := HA.out.2.2.2; simp only [maxLen]; omega) (by have := HI6.out.2.2.2.2.2.1; have := HA.out.2.2.2; omega) (by have := HI6.out.1.b4.lt; have := hoa.out.2.2.size; omega) ?_; intro v4 W8 sp4 ho4 hg4 hv4 hn4; refine stopped ?_)
        | fail)
      refine Stopped.mk ?_
      have hlt := HA.out.2.2.1
      have hk8 : Near (Value.slice B (gsome g d root k).length c).ownBlock.toList W6 W8 := (Near.below hoa.out.2.2).trans (Near.grown hg4 (fun x hx => Option.mem_toList.2 hx))
      have hvx : v4.ownBlock = (Value.slice B (gsome g d root k).length c).ownBlock ∨ ∃ x, v4.ownBlock = some x ∧ W6.heap.size ≤ x := hv4.imp id fun e => ⟨_, e, hoa.out.2.2.size⟩
      have ho4' : OwnsC 23 2 W8 (S + 3) v4 (gsome g d root k ++ [r]).length (refCells (gsome g d root k ++ [r])) sp4 := by
        rw [List.length_append, show refCells (gsome g d root k ++ [r]) = refCells (gsome g d root k) ++ [.int .i64 r.1, .int .i64 r.2.1] from refCells_snoc _ r.1 r.2.1]
        exact ho4
      have h9 := HI6.out.1.told hk8 ho4' hvx hlt
      have hob : ∀ x, x < S + 3 → x ∉ (Value.slice B (gsome g d root k).length c).ownBlock.toList := fun x hx hm => by have := (OwnsC.lt HI6.out.1.own x (Option.mem_toList.1 hm)).1; omega
      have hb8 := HI6.out.1.b2.near hk8 (hob S (by omega))
      have d8 := hb8.at_ 0 (v := .slice B (gsome g d root k).length c) rfl
      have f8 := hb8.frozen 0
      have hu9 : Near [S] W8 (W8.setCell ⟨S, 0, none⟩ v4) := Near.upd ((Upd.refl _ _).set 0 _) (List.mem_singleton_self _)
      have hr9 := (HI6.out.2.1.near hk8 (fun hm => by have := HI6.out.2.2.1 gx (List.mem_append_right _ hm); omega)).near hu9 (fun hm => by have := HI6.out.2.2.2.2.1; have := List.mem_singleton.1 hm; omega)
      have d9 := h9.b0.at_ 0 (v := .pointer (some ⟨q.gg, 0, none⟩)) rfl
      have hy9 : Young w6.heap.size (Q.gw.toList ++ (Value.slice B (gsome g d root k).length c).ownBlock.toList) W6 (W8.setCell ⟨S, 0, none⟩ v4) := (Young.near hk8 (fun x hx => .inr (List.mem_append_right _ hx))).trans (Young.near hu9 (fun x hx => .inl (by rw [List.mem_singleton.1 hx, H6.out.2]; omega)))
      have hvl := fun x hx => (OwnsC.lt h9.own x hx)
      have hvg : ∀ x, v4.ownBlock = some x → x ∈ (Value.slice B (gsome g d root k).length c).ownBlock.toList ∨ W6.heap.size ≤ x := fun x hx => by
        rcases hvx with e | ⟨y, e, hy⟩
        · exact .inl (by rw [← e, hx]; simp)
        · rw [hx] at e; injection e with e; exact .inr (e ▸ hy)
      have H9 := Lib.hid (And.intro h9 (And.intro hr9 (And.intro hy9 (And.intro hvl hvg))))
      obtain ⟨B4, c4, rfl, -, -, -, -⟩ := OwnsC.reads ho4
      clear ho4 hg4 hv4 hn4 hk8 hvx ho4' hob hb8 hu9 h9 hy9 hvl hvg hoa h6 d2 hlt
      refine ⟨rfl, ?_⟩
      gi_wp2_with (first
        | ((with_reducible show wpListIn _ _ _ _ _ ((⟨some 30, _, _, _, _, _⟩ : Oper) :: _) _ _); refine wpListIn_of (by rfl) ?_; refine wpList_load_blk (o := ⟨some 30, _, _, _, _, _⟩) (hr9) (by rfl) _ _ (by rfl) (by rfl) _ Tryd.underlying23 (by rfl) (size_ref) (by rfl) ?_; refine ⟨rfl, ?_⟩)
        | fail)
      clear d8 f8 d9 hr9
      generalize W8.setCell ⟨S, 0, none⟩ (.slice B4 ((gsome g d root k).length + 1) c4) = W9 at H9 ⊢
      have hof := gof_any H9.out.1.gr r
      rw [H9.out.1.eg.1, show (g.wants (gsome g d root k)).of r = g.of r by unfold Grd.of; rw [Grd.wants_n]] at hof
      refine ⟨trivial, ?_⟩
      refine (calls_round hof).mono ?_
      rintro e W10 ⟨rfl, hbx⟩
      have H10 := Lib.hid (And.intro (H9.out.1.below hbx) (And.intro (H9.out.2.1.below hbx H9.out.2.1.lt) (And.intro (H9.out.2.2.1.trans (Young.below hbx)) (And.intro (fun x hx => OwnsC.lt (H9.out.1.below hbx).own x hx) H9.out.2.2.2.2))))
      have hs6 : W6.heap.size ≤ W10.heap.size := Nat.le_trans H9.out.2.2.1.size hbx.size
      have HS := Lib.hid hs6
      clear hof hbx H9 hs6
      cases hof : g.of r
      case false =>
        gi_wp2_with fail
        have he : g.wants (gsome g d root (k + 1)) = g.wants (gsome g d root k) := by rw [HI6.out.2.2.2.2.2.2, Grd.wants_snoc, if_neg (by rw [hof]; simp)]
        refine ⟨H10.out.2.2.1, _, ⟨Q, _, sp4, by rw [HI6.out.2.2.2.2.2.2] at he ⊢; exact H10.out.1.grid he, rfl⟩, fun x hx => ?_⟩
        rcases List.mem_append.1 hx with hx | hx
        · exact .inl (List.mem_append_left _ hx)
        · rcases H10.out.2.2.2.2 x (Option.mem_toList.1 hx) with h | h
          · exact .inl (List.mem_append_right _ h)
          · exact .inr h
      case true =>
        have hr10 := H10.out.2.1
        have d10 := H10.out.1.b0.at_ 0 (v := .pointer (some ⟨q.gg, 0, none⟩)) rfl
        gi_wp2_with (first
          | ((with_reducible show wpListIn _ _ _ _ _ ((⟨some 33, _, _, _, _, _⟩ : Oper) :: _) _ _); refine wpListIn_of (by rfl) ?_; refine wpList_load_blk (o := ⟨some 33, _, _, _, _, _⟩) (hr10) (by rfl) _ _ (by rfl) (by rfl) _ Tryd.underlying23 (by rfl) (size_ref) (by rfl) ?_; refine ⟨rfl, ?_⟩)
          | fail)
        have hwl := Grd.wants_len (gsome g d root k) g
        have hw := gwant_anyI H10.out.1.gr (by have := HA.out.2.1; have := HA.out.2.2.2; have := HI6.out.2.2.2.2.2.1; omega) r
        rw [H10.out.1.eg.1] at hw
        refine ⟨trivial, ?_⟩
        refine (calls_round hw).mono ?_
        rintro e W11 ⟨rfl, Q', eg, hG, hN, hn⟩
        have he : g.wants (gsome g d root (k + 1)) = (g.wants (gsome g d root k)).want r := by rw [HI6.out.2.2.2.2.2.2, Grd.wants_snoc, if_pos hof]
        have h11 := H10.out.1.wanted he HA.out.2.2.1 eg hG hN hn
        have hy11 := H10.out.2.2.1.trans (Young.near (B := w6.heap.size) (X := Q.gw.toList ++ (Value.slice B (gsome g d root k).length c).ownBlock.toList) hN (fun x hx => by
          rw [H6.out.2]
          exact HI6.out.1.low HA.out.2.2.1 x hx))
        have hgw := gw_grown hG.apart eg hn
        have H11 := Lib.hid (And.intro h11 (And.intro hy11 (And.intro hgw he)))
        clear hw hwl eg hG hN hn he h11 hy11 hgw hr10 d10
        gi_wp2_with fail
        refine ⟨H11.out.2.1, _, ⟨Q', _, sp4, by rw [← HI6.out.2.2.2.2.2.2] at H11; exact H11.out.1, rfl⟩, fun x hx => ?_⟩
        rcases List.mem_append.1 hx with hx | hx
        · rcases H11.out.2.2.1 x (Option.mem_toList.1 hx) with h | h
          · exact .inl (List.mem_append_left _ (Option.mem_toList.2 h))
          · exact .inr (Nat.le_trans HS.out h)
        · rcases H10.out.2.2.2.2 x (Option.mem_toList.1 hx) with h | h
          · exact .inl (List.mem_append_right _ h)
          · exact .inr h
  case done =>
    intro D X W hD hI hK
    obtain ⟨Q, ov, sp, h1, rfl⟩ := hI
    rw [gsome_all] at h1
    have HX := Lib.hid (And.intro h1 hK)
    have d0 := h1.b2.at_ 0 (v := ov) rfl
    obtain ⟨A, c, rfl, hc, hc2, hrd, -⟩ := OwnsC.reads h1.own
    have HR := Lib.hid (And.intro hc (And.intro hc2 hrd))
    clear h1 hK hc hc2 hrd
    go_wp2_with fail
    refine ⟨by simp, .inl ⟨_, _, rfl, run_takeDeferred HX.out.2, ?_⟩⟩
    have k1 := mark_kept (B := S + 3) (by rw [← H6.out.2]; exact hD) HX.out.2
    refine ⟨_, results_tmp2 (by rfl) _ _ _, ?_⟩
    rw [HL.out]
    have h2 := HX.out.1.keptW k1 (Nat.le_refl _) HA.out.2.2.1
    refine ⟨A, c, rfl, Refs.of (HR.out.2.2.keptW k1), HR.out.1, HR.out.2.1, Q, h2.eg.1, h2.eg.2.1, h2.eg.2.2.1, h2.gr, h2.near, fun x hx => (h2.new x hx).imp id (fun h => by have := h2.sz; omega), fun ad e => ?_⟩
    subst e
    have ho := ownOf h2.own
    exact ⟨by have := (OwnsC.lt h2.own _ ho).1; have := h2.sz; omega, h2.off _ ho⟩
end Go.Proofs.YthfdjemlibecgaaDoor

/- A list of refs is cloned; what a grid wants is told: its Wanted. Conditions: the list can be read; the grid is known. -/
namespace Go.Proofs.YthfdjemlibecgaaDoor
open Go.RowKit
def RefsTold (l : List RefT) (w : World) (e : Ending) (w' : World) : Prop := ∃ A c, e = .returned (.slice A l.length c) ∧ Refs w' A l ∧ (∀ ad, A = some ad → w.heap.size ≤ ad.block) ∧ Below w.heap.size w w'
set_option maxRecDepth 100000 in
set_option maxHeartbeats 2000000 in
theorem cloneRefs_any (A : Option Addr) (n c : Nat) (l : List RefT) (w : World) (hn : n = l.length) (hl : l.length ≤ 1099511627776) (hr : Refs w A l) :
    Calls Tryd.prog 89 #[.slice A n c] w (RefsTold l w) := by
  cases A with
  | none =>
    have hl0 : l = [] := by
      rcases Nat.eq_zero_or_pos l.length with h | h
      · exact List.eq_nil_of_length_eq_zero h
      · obtain ⟨b, off, e, -⟩ := hr h
        cases e
    subst hl0
    subst hn
    clear hr hl
    have he : ∀ w', (binOp .eql 29 (.slice none 0 c) (.slice none 0 0)).run Tryd.prog w' = .ok (.bool true) w' := fun w' => Lib.run_eql_slice_nil w' 29 23 none _ _ _ _ Tryd.underlying29
    go_enter Tryd.func89, Tryd.ntmps89
    go_wp2
    go_ret
    exact ⟨none, 0, rfl, (fun h => absurd h (by simp)), (fun _ e => by cases e), Below.refl _ _⟩
  | some ad =>
    subst hn
    have hB := (Below.refl w.heap.size w).alloc (Nat.le_refl _) (.cells #[] 23)
    have hr1 := (hr.below hB).reads
    have ho : OwnsC 23 2 (w.alloc (.cells #[] 23)) w.heap.size (.slice (some ⟨w.heap.size, 0, none⟩) 0 0) 0 [] [] := by
      have := OwnsC.lit (e := 23) (size := 2) (base := w.heap.size) w #[] 0 (by simp) (by simp) (by simp)
      simpa using this
    have hs1 : w.heap.size ≤ (w.alloc (.cells #[] 23)).heap.size := by simp
    have H0 := Lib.hid (And.intro hB (And.intro hr1 (And.intro ho hs1)))
    have HL := Lib.hid hl
    clear hB hr1 ho hs1 hr hl
    have he : ∀ w', (binOp .eql 29 (.slice (some ad) l.length c) (.slice none 0 0)).run Tryd.prog w' = .ok (.bool false) w' := fun w' => Lib.run_eql_slice_nil w' 29 23 (some ad) _ _ _ _ Tryd.underlying29
    go_enter Tryd.func89, Tryd.ntmps89
    go_wp2_with (first
      | ((with_reducible show wpList _ _ _ ((⟨some 7, _, _, _, _, _⟩ : Oper) :: _) _ _); generalize (w.alloc (.cells #[] 23)) = w1 at H0 ⊢; refine wpList_append_vals (o := ⟨some 7, _, _, _, _, _⟩) (by rfl) _ _ _ (by rfl) w.heap.size 23 (.agg #[.int .i64 0, .int .i64 0]) 2 16 Tryd.underlying29 infoRef (by rfl) (by omega) _ 0 [] [] (by rfl) H0.out.2.2.1 (some ad) l.length c (refCells l) (by rfl) (refCells_length l) H0.out.2.1 (refCells_one l) (by have := HL.out; unfold maxLen; omega) (by have := HL.out; omega) H0.out.2.2.2 ?_; intro v2 w2 sp2 ho2 hg2 hv2 hn2)
      | fail)
    go_ret
    rw [Nat.zero_add, List.nil_append] at ho2
    have hlt := OwnsC.lt ho2
    obtain ⟨A2, c2, rfl, -, -, hrd, -⟩ := OwnsC.reads ho2
    refine ⟨A2, c2, rfl, Refs.of hrd, (fun ad2 e => (hlt ad2.block (by rw [e]; rfl)).1), ?_⟩
    exact H0.out.1.grown hg2 H0.out.1.size (fun k hk => by simp [Value.ownBlock] at hk; omega)
section
variable {w : World} {q : GPl} {g : Grd} {d : Dsk} {f : Option Fus}
set_option maxRecDepth 100000 in
theorem gwanted_any (h : GridR w q g d f) (hl : g.W.length ≤ 1099511627776) : Calls Tryd.prog 30 #[.pointer (some ⟨q.gg, 0, none⟩)] w (RefsTold g.W w) := by
  obtain ⟨wv, sp, h1, h2, h3⟩ := h.wn
  obtain ⟨B, c, rfl, -, -, hrd, -⟩ := OwnsC.reads h3
  have d4 := h2.at_ 4 (v := .slice B g.W.length c) rfl
  have hn := gnone_any h
  have hc := cloneRefs_any B g.W.length c g.W w rfl hl (Refs.of hrd)
  clear h h1 h2 h3 hrd
  go_enter Tryd.func30, Tryd.ntmps30
  go_wp2_with fail
  refine hn.mono ?_
  rintro e w1 ⟨rfl, hw⟩
  obtain rfl := hw.symm
  clear hn hw
  go_wp2_with fail
  refine hc.mono ?_
  rintro e w2 ⟨A2, c2, rfl, h4⟩
  have H4 := Lib.hid h4
  clear h4 hc
  go_wp2
  go_ret
  exact ⟨A2, c2, rfl, H4.out⟩
end
end Go.Proofs.YthfdjemlibecgaaDoor

/- A block is written to a grid whose disk holds; a grid that a statement made. Plain facts of this program. No condition. -/
namespace Go.Proofs.YthfdjemlibecgaaDoor
open Go.RowKit
theorem gput_ok {g : Grd} {d : Dsk} {k s : Int} {l : List RefT} {m : List UInt8} (h : Rm d g.n) (hg : g.L.length = g.n) (hset : SetOk g.L) (hok : GB.ok (k, (1, s, ()), l, m, ()) = true) (he : acqE g.L = 0) :
    ∃ d', gput g d none k l m s = ((0, (acqN g.L, s, ())), { g with L := acqL g.L }, d', none) ∧ Rm d' g.n ∧ d'.N = d.N ∧ gblk d' (acqN g.L) = GB.bytes (k, (acqN g.L, s, ()), l, m, ()) ∧ ∀ c, 1 ≤ c → c ≤ (g.n : Int) → c ≠ acqN g.L → gblk d' c = gblk d c := by
  obtain ⟨h1, h2, h3⟩ := acq_range hset (show ¬ acqE g.L ≠ 0 by rw [he]; simp)
  have hok2 := GB.ok_at hok h1 h3
  obtain ⟨d', e1, e2, e3, e4, e5⟩ := gwrite h h1 (hg ▸ h2) (GB.bytes_length (k, (acqN g.L, s, ()), l, m, ()) (GB.ok_spec hok2).2.2.1 (GB.ok_spec hok2).2.2.2.1)
  refine ⟨d', ?_, e2, e3, e4, e5⟩
  unfold gput
  rw [if_neg (by unfold Dsk.isOut; rw [h.out]; simp), if_neg (by rw [hok]; simp), if_neg (by rw [he]; simp), e1, if_neg (by simp)]
/-- A grid that was made since, and its disk. -/
def GL (B : Nat) (w : World) (gp dp : Nat) (g : Grd) (d : Dsk) : Prop := ∃ q : GPl, q.gg = gp ∧ q.p.gd = dp ∧ q.gf = none ∧ GridR w q g d none ∧ ∀ x ∈ q.all, B ≤ x
section
variable {B gp dp : Nat} {w w' : World} {g : Grd} {d : Dsk}
theorem GL.below (h : GL B w gp dp g d) (k : Below w.heap.size w w') : GL B w' gp dp g d := by
  obtain ⟨q, h1, h2, h3, h4, h5⟩ := h
  exact ⟨q, h1, h2, h3, h4.below k, h5⟩
theorem GL.of_post {q : GPl} {g2 : Grd} {d2 : Dsk} {f : Option Fus} (e1 : q.gg = gp) (e2 : q.p.gd = dp) (e3 : q.gf = none) (e4 : ∀ x ∈ q.all, B ≤ x) (hs : B ≤ w.heap.size) (h : GPost w q g2 d2 f w') : GL B w' gp dp g2 d2 ∧ Below B w w' := by
  obtain ⟨q', k1, k2, k3, k4, k5, k6⟩ := h
  have hf : f = none := by
    have := k4.dk.fr
    rw [k3, e3] at this
    exact this.none_
  subst hf
  exact ⟨⟨q', k1.trans e1, (congrArg Pl.gd k2).trans e2, k3.trans e3, k4, fun x hx => (k6 x hx).elim (e4 x) (fun k => Nat.le_trans hs k)⟩, k5.toBelow e4 hs⟩
instance : KeepsTo w w' (GL B w gp dp g d) (GL B w' gp dp g d) := ⟨fun hb h => h.below hb⟩
end
end Go.Proofs.YthfdjemlibecgaaDoor

/- A slice of elements of two cells is cut; one element is cleared. Plain facts over any program. No condition. -/
namespace Go
open Go.RowKit
theorem run_cut2 {P : Program} (w : World) (t e : TypeId) (ht : P.underlying t = some (.slice e)) (hsz : (P.info? e).map (·.size) = some 2) (A : Option Addr) (n c : Nat) (k : IntKind) (K : Nat) (hK : K ≤ n) (hc : c ≠ K) :
    (Instr.sliceAt t (.slice A n c) (some (.int k (K : Int))) none none).run P w = .ok (.slice (A.map (·.add (K * 2))) (n - K) (c - K)) w := by
  obtain ⟨i, hi, hs⟩ := Option.map_eq_some_iff.1 hsz
  have hsz' : (sizeOf e).run P w = .ok 2 w := by simp [sizeOf, typeInfo, hi, hs]
  have hb : (Instr.sliceBound (.int k (K : Int)) n .sliceB).run P w = .ok K w := by
    have := run_sliceBound (P := P) w k (K : Int) n .sliceB (by omega) (by omega)
    simpa using this
  simp [Instr.sliceAt, Instr.slice, run_underlying ht, Instr.sliceBounds, hb, hsz', hc]
theorem run_cutHi2 {P : Program} (w : World) (t e : TypeId) (ht : P.underlying t = some (.slice e)) (hsz : (P.info? e).map (·.size) = some 2) (g : Nat) (n c : Nat) (k : IntKind) (K : Nat) (hK : K ≤ c) :
    (Instr.sliceAt t (.slice (some ⟨g, 0, none⟩) n c) none (some (.int k (K : Int))) none).run P w = .ok (.slice (some ⟨g, 0, none⟩) K c) w := by
  obtain ⟨i, hi, hs⟩ := Option.map_eq_some_iff.1 hsz
  have hsz' : (sizeOf e).run P w = .ok 2 w := by simp [sizeOf, typeInfo, hi, hs]
  have hb : ∀ code, (Instr.sliceBound (.int k (K : Int)) c code).run P w = .ok K w := by
    intro code
    have := run_sliceBound (P := P) w k (K : Int) c code (by omega) (by omega)
    simpa using this
  have ha : (⟨g, 0, none⟩ : Addr).add 0 = ⟨g, 0, none⟩ := rfl
  simp [Instr.sliceAt, Instr.slice, run_underlying ht, Instr.sliceBounds, hb, hsz', ha]
theorem wpList_clear_one {P : Program} {w : World} {Q : Exit → Act → World → Prop} {ops : Array Oper} {rest : List Oper} {o : Oper} {a : Act} (hgd : o.guard = none) (t e : TypeId) (x : Operand) (ho : o.op = .call { callee := .builtin .clear, args := #[x], argTypes := #[t] })
    (ht : P.underlying t = some (.slice e)) (z : Value) (hz : ∀ w, (zeroValue e).run P w = .ok z w) (vs : List Value) (hvs : (Builtin.zeroCells z.cells 1).toList = vs) (g k c : Nat) (hx : a.eval x = .slice (some ⟨g, k, none⟩) 1 c)
    (t' : TypeId) (cs : Array Value) (hb : Blk w g t' cs) (hk : k + vs.length ≤ cs.size) (h1 : ∀ v ∈ vs, v.oneCell' = true)
    (h : ∀ w', Blk w' g t' (setAll cs k vs) → Upd g w w' → wpList P ops Q rest (a.put o.dst (.tuple #[])) w') : wpList P ops Q (o :: rest) a w := by
  have hst := run_storeCells_cells (P := P) g k vs 0 w (fun j hj => by rw [Nat.add_zero, hb.cell, Array.getElem?_eq_getElem (by omega)]; rfl) (fun j hj => hb.frozen _) h1
  rw [Nat.add_zero] at hst
  have hr : (Builtin.clear_ #[t] o.type #[.slice (some ⟨g, k, none⟩) 1 c]).run P w = .ok (.tuple #[]) (w.setCells g k vs) := by
    simp [Builtin.clear_, run_underlying ht, hz, hvs, hst]
  refine wpList_plain hgd fun _ hK => ?_
  unfold Oper.wp execOp
  simp only [ho, resolve, invoke, builtin, Sem.run_bind, Sem.run_pure, Result.andThen_ok, List.map_toArray, List.map_cons, List.map_nil, hx, hr]
  exact hK _ _ (h _ (Blk.setCells vs k w cs hb) (Upd.setCells vs k w (Upd.refl g w)))
theorem wpList_cut2 {P : Program} {w : World} {Q : Exit → Act → World → Prop} {ops : Array Oper} {rest : List Oper} {o : Oper} {a : Act} (hgd : o.guard = none) (t : TypeId) (x lo : Operand) (ho : o.op = .slice t x (some lo) none none) (e : TypeId)
    (ht : P.underlying t = some (.slice e)) (hsz : (P.info? e).map (·.size) = some 2) (g n c : Nat) (k : IntKind) (K : Nat) (hx : a.eval x = .slice (some ⟨g, 0, none⟩) n c) (hlo : a.eval lo = .int k (K : Int)) (hK : K ≤ n) (hc : c ≠ K)
    (h : wpList P ops Q rest (a.put o.dst (.slice (some ⟨g, K * 2, none⟩) (n - K) (c - K))) w) : wpList P ops Q (o :: rest) a w := by
  have ha : (⟨g, 0, none⟩ : Addr).add (K * 2) = ⟨g, K * 2, none⟩ := by unfold Addr.add; split <;> simp_all
  have hr := run_cut2 (P := P) w t e ht hsz (some ⟨g, 0, none⟩) n c k K hK hc
  rw [Option.map_some, ha] at hr
  exact wpList_run _ hgd (by unfold execOp; simp only [ho, hx, hlo, Option.map_some, Option.map_none, hr, Sem.run_bind, Result.andThen_ok, Sem.run_pure]) h
theorem wpList_cutHi2 {P : Program} {w : World} {Q : Exit → Act → World → Prop} {ops : Array Oper} {rest : List Oper} {o : Oper} {a : Act} (hgd : o.guard = none) (t : TypeId) (x hi : Operand) (ho : o.op = .slice t x none (some hi) none) (e : TypeId)
    (ht : P.underlying t = some (.slice e)) (hsz : (P.info? e).map (·.size) = some 2) (g n c : Nat) (k : IntKind) (K : Nat) (hx : a.eval x = .slice (some ⟨g, 0, none⟩) n c) (hhi : a.eval hi = .int k (K : Int)) (hK : K ≤ c)
    (h : wpList P ops Q rest (a.put o.dst (.slice (some ⟨g, 0, none⟩) K c)) w) : wpList P ops Q (o :: rest) a w :=
  wpList_run _ hgd (by unfold execOp; simp only [ho, hx, hhi, Option.map_some, Option.map_none, run_cutHi2 (P := P) w t e ht hsz g n c k K hK, Sem.run_bind, Result.andThen_ok, Sem.run_pure]) h
end Go

/- A ref is dropped from a list: slices.DeleteFunc with the grid's closure. Conditions: the list can be read. -/
namespace Go.Proofs.YthfdjemlibecgaaDoor
open Go.RowKit
set_option maxRecDepth 100000 in
theorem isref_any (x r : RefT) (gb : Nat) (w : World) (h : Blk w gb 23 #[.int .i64 r.1, .int .i64 r.2.1]) :
    Calls Tryd.prog 87 #[.agg #[.int .i64 x.1, .int .i64 x.2.1], .pointer (some ⟨gb, 0, none⟩)] w fun e w' => e = .returned (.bool (decide (x = r))) ∧ Below w.heap.size w w' := by
  have hB := (Below.refl w.heap.size w).alloc (Nat.le_refl _) (.cells #[.int .i64 x.1, .int .i64 x.2.1] 23)
  have hbx := Blk.new w 23 #[.int .i64 x.1, .int .i64 x.2.1]
  have hbr := h.below hB h.lt
  have HB := Lib.hid hB
  clear h hB
  obtain ⟨x1, x2, u⟩ := x
  obtain ⟨r1, r2, u'⟩ := r
  have he : ((x1 == r1) && (x2 == r2)) = decide ((x1, x2, u) = (r1, r2, u')) := by
    rw [Bool.eq_iff_iff]; simp
  have HE := Lib.hid he
  clear he
  go_enter Tryd.func87, Tryd.ntmps87
  go_wp2_with (first
    | ((with_reducible show wpList _ _ _ ((⟨some 4, _, _, _, _, _⟩ : Oper) :: _) _ _); refine wpList_load_blk (o := ⟨some 4, _, _, _, _, _⟩) (hbx) (by rfl) _ _ (by rfl) (by rfl) _ Tryd.underlying23 (by rfl) (size_ref) (by rfl) ?_)
    | ((with_reducible show wpList _ _ _ ((⟨some 5, _, _, _, _, _⟩ : Oper) :: _) _ _); refine wpList_load_blk (o := ⟨some 5, _, _, _, _, _⟩) (hbr) (by rfl) _ _ (by rfl) (by rfl) _ Tryd.underlying23 (by rfl) (size_ref) (by rfl) ?_)
    | ((with_reducible show wpList _ _ _ ((⟨some 6, _, _, _, _, _⟩ : Oper) :: _) _ _); refine wpList_run (o := ⟨some 6, _, _, _, _, _⟩) _ (by rfl) (exec_eql_ref _ _ _ _ (by rfl) x1 x2 r1 r2 (by rfl) (by rfl)) ?_; rw [HE.out])
    | fail)
  go_ret
  exact ⟨rfl, HB.out⟩
def IdxRel (w : World) (l : List RefT) (r : RefT) (v : Value) (wr : World) : Prop := ∃ j : Nat, j ≤ l.length ∧ v = .int .i64 (j : Int) ∧ r ∉ l.take j ∧ Below w.heap.size w wr
theorem notMem_take {l : List RefT} {r : RefT} {j : Nat} (h : r ∉ l.take j) (hj : j < l.length) (hne : l[j] ≠ r) : r ∉ l.take (j + 1) := by
  rw [List.take_succ_eq_append_getElem hj, List.mem_append]
  rintro (h1 | h1)
  · exact h h1
  · exact hne (List.mem_singleton.1 h1).symm
theorem idxOf_at {l : List RefT} {r : RefT} {j : Nat} (h : r ∉ l.take j) (hj : j < l.length) (he : l[j] = r) : r ∈ l ∧ l.idxOf r = j := by
  refine ⟨he ▸ List.getElem_mem hj, ?_⟩
  have hs : l = l.take j ++ l[j] :: l.drop (j + 1) := by rw [← List.drop_eq_getElem_cons hj, List.take_append_drop]
  rw [hs, List.idxOf_append, if_neg h, he, List.idxOf_cons_self, List.length_take]
  omega
def idxR (l : List RefT) (r : RefT) : Int := if r ∈ l then (l.idxOf r : Int) else -1
def isRef (gb : Nat) : Value := .func (.func 87) #[] #[.pointer (some ⟨gb, 0, none⟩)]
set_option maxRecDepth 100000 in
set_option maxHeartbeats 2000000 in
theorem indexRef_any (A : Option Addr) (n c : Nat) (l : List RefT) (r : RefT) (gb : Nat) (w : World) (hn : n = l.length) (hl : l.length ≤ 1099511627776) (hr : Refs w A l) (h : Blk w gb 23 #[.int .i64 r.1, .int .i64 r.2.1]) :
    Calls Tryd.prog 136 #[.slice A n c, isRef gb] w fun e w' => e = .returned (.int .i64 (idxR l r)) ∧ Below w.heap.size w w' := by
  unfold isRef
  have H0 := Lib.hid (And.intro hn (And.intro hl (And.intro hr h)))
  have hn5 : n ≤ 1099511627776 := by omega
  clear hn hl hr h
  go_enter Tryd.func136, Tryd.ntmps136
  go_wp2
  go_loopw [8] (fun v wr => IdxRel w l r v wr) (fun v _ => n - (intOf v).toNat)
  case atStart => exact ⟨0, by omega, rfl, by simp, Below.refl _ _⟩
  case round =>
    obtain ⟨j, hj, rfl, hnm, hB⟩ := hrel
    rw [← H0.out.1] at hj
    have HK := Lib.hid (And.intro hnm hB)
    clear hnm
    by_cases hlt : j < n
    · have hr1 := H0.out.2.2.1.below hB
      obtain ⟨b1, o1, rfl, _, hc1⟩ := hr1 (by rw [← H0.out.1]; omega)
      have hil : j < l.length := by rw [← H0.out.1]; exact hlt
      obtain ⟨d1, d2⟩ := hc1 j hil
      obtain ⟨x, hx⟩ : ∃ x : RefT, x = l[j] := ⟨_, rfl⟩
      rw [← hx] at d1 d2
      have HX := Lib.hid hx
      have hir := isref_any x r gb wr (H0.out.2.2.2.below hB H0.out.2.2.2.lt)
      clear hx hc1 hr1 hB
      go_wp2_with fail
      refine hir.mono ?_
      rintro e w2 ⟨rfl, hbx⟩
      have HB2 := Lib.hid (HK.out.2.trans (hbx.mono HK.out.2.size))
      clear hir hbx d1 d2
      by_cases hxr : x = r
      · have kt := decide_eq_true hxr
        have hid := idxOf_at HK.out.1 hil (HX.out.symm.trans hxr)
        have HI := Lib.hid hid
        clear hxr hid
        go_wp2
        go_ret
        exact ⟨by unfold idxR; rw [if_pos HI.out.1, HI.out.2]; rfl, HB2.out⟩
      · have kt := decide_eq_false hxr
        have HI := Lib.hid (notMem_take HK.out.1 hil (HX.out ▸ hxr))
        clear hxr
        go_wp2
        go_roundw
        case rel => exact ⟨j + 1, by have := H0.out.1; omega, by go_num, HI.out, HB2.out⟩
        case measure => simp [intOf]; omega
    · obtain rfl : j = n := by omega
      have hnr : Hid (r ∉ l) := Lib.hid (by
        have := HK.out.1
        rwa [H0.out.1, List.take_length] at this)
      clear hB
      go_wp2
      go_ret
      exact ⟨by unfold idxR; rw [if_neg hnr.out]; rfl, HK.out.2⟩
/-- The list while it is moved: i0 stood first, k were moved. -/
def mvd (W : List RefT) (i k : Nat) : List RefT := W.take i ++ ((W.drop (i + 1)).take k ++ W.drop (i + k))
theorem mvd_zero (W : List RefT) (i : Nat) : mvd W i 0 = W := by unfold mvd; simp
theorem mvd_get (W : List RefT) {i k : Nat} (h : i + k < W.length) (m : Nat) : (mvd W i k)[m]? = if m < i then W[m]? else if m < i + k then W[m + 1]? else W[m]? := by
  have e1 : (W.take i).length = i := by rw [List.length_take]; omega
  have e2 : ((W.drop (i + 1)).take k).length = k := by rw [List.length_take, List.length_drop]; omega
  unfold mvd
  rw [List.getElem?_append, List.getElem?_append, e1, e2]
  by_cases h1 : m < i
  · rw [if_pos h1, if_pos h1, List.getElem?_take, if_pos h1]
  · rw [if_neg h1, if_neg h1]
    by_cases h2 : m < i + k
    · rw [if_pos (by omega), if_pos h2, List.getElem?_take, if_pos (by omega), List.getElem?_drop]
      congr 1; omega
    · rw [if_neg (by omega), if_neg h2, List.getElem?_drop]
      congr 1; omega
theorem mvd_length (W : List RefT) {i k : Nat} (h : i + k < W.length) : (mvd W i k).length = W.length := by
  unfold mvd
  simp only [List.length_append, List.length_take, List.length_drop]; omega
theorem mvd_at (W : List RefT) {i k j : Nat} (h : i + k < W.length) (hj : i + k ≤ j) : (mvd W i k)[j]? = W[j]? := by
  rw [mvd_get W h, if_neg (by omega), if_neg (by omega)]
theorem mvd_step (W : List RefT) {i k : Nat} (h : i + k + 1 < W.length) (x : RefT) (hx : W[i + k + 1]? = some x) : (mvd W i k).set (i + k) x = mvd W i (k + 1) := by
  apply List.ext_getElem?
  intro m
  have hl := mvd_length W (i := i) (k := k) (by omega)
  rw [mvd_get W (by omega)]
  by_cases hm : m = i + k
  · subst hm
    rw [List.getElem?_set_self (by omega), if_neg (by omega), if_pos (by omega), hx]
  · rw [List.getElem?_set_ne (by omega), mvd_get W (by omega)]
    by_cases h1 : m < i
    · rw [if_pos h1, if_pos h1]
    · rw [if_neg h1, if_neg h1]
      by_cases h2 : m < i + k
      · rw [if_pos h2, if_pos (by omega)]
      · rw [if_neg h2, if_neg (by omega)]
theorem mvd_end (W : List RefT) {i : Nat} (h : i < W.length) : ∃ x, mvd W i (W.length - i - 1) = (W.take i ++ W.drop (i + 1)) ++ [x] := by
  refine ⟨W[W.length - 1], ?_⟩
  have e : i + (W.length - i - 1) = W.length - 1 := by omega
  have e2 : W.drop (W.length - 1) = [W[W.length - 1]] := by
    rw [List.drop_eq_getElem_cons (by omega), List.drop_of_length_le (by omega)]
  have e3 : (W.drop (i + 1)).take (W.length - i - 1) = W.drop (i + 1) := List.take_of_length_le (by rw [List.length_drop]; omega)
  unfold mvd
  rw [e3, e, e2, List.append_assoc]
theorem erase_at {W : List RefT} {r : RefT} (_h : r ∈ W) : W.erase r = W.take (W.idxOf r) ++ W.drop (W.idxOf r + 1) := by
  rw [List.erase_eq_eraseIdx_of_idxOf (i := W.idxOf r) rfl, List.eraseIdx_eq_take_drop_succ]
theorem refCells_app (a b : List RefT) : refCells (a ++ b) = refCells a ++ refCells b := by unfold refCells; simp
end Go.Proofs.YthfdjemlibecgaaDoor

/- A ref is dropped from an own list: slices.DeleteFunc with the grid's closure. Conditions: the list is an own row, each ref once. -/
namespace Go.Proofs.YthfdjemlibecgaaDoor
open Go.RowKit
theorem refCells_set (x : RefT) : ∀ (X : List RefT) (sp : List Value) (m : Nat), m < X.length → ((refCells X ++ sp).set (m * 2) (.int .i64 x.1)).set (m * 2 + 1) (.int .i64 x.2.1) = refCells (X.set m x) ++ sp
  | [], _, _, h => absurd h (by simp)
  | y :: X, sp, 0, _ => by simp [refCells]
  | y :: X, sp, m + 1, h => by
    have ih := refCells_set x X sp m (by simpa using h)
    have e : ∀ z : RefT, ∀ Z : List RefT, refCells (z :: Z) = .int .i64 z.1 :: .int .i64 z.2.1 :: refCells Z := fun z Z => by simp [refCells]
    rw [List.set_cons_succ, e, e]
    rw [show (m + 1) * 2 + 1 = (m * 2 + 1) + 1 + 1 by omega, show (m + 1) * 2 = m * 2 + 1 + 1 by omega]
    simp only [List.cons_append, List.set_cons_succ]
    rw [ih]
theorem refCells_setAll (x : RefT) (X : List RefT) (sp : List Value) (m : Nat) (h : m < X.length) : setAll (refCells X ++ sp).toArray (m * 2) [.int .i64 x.1, .int .i64 x.2.1] = (refCells (X.set m x) ++ sp).toArray := by
  rw [← refCells_set x X sp m h]
  simp [setAll]
def DropPost (W : List RefT) (r : RefT) (v : Value) (w : World) (e : Ending) (w' : World) : Prop :=
  ∃ v' sp', e = .returned v' ∧ OwnsC 23 2 w' 0 v' (W.erase r).length (refCells (W.erase r)) sp' ∧ v'.ownBlock = v.ownBlock ∧ Near v.ownBlock.toList w w'
/-- Ahead of each round: how many were moved. -/
def DelRel (w : World) (W : List RefT) (i g : Nat) (sp : List Value) (v5 v6 : Value) (wr : World) : Prop :=
  ∃ k : Nat, i + k < W.length ∧ v5 = .int .i64 ((i + k : Nat) : Int) ∧ v6 = .int .i64 ((i + k + 1 : Nat) : Int) ∧ Blk wr g 23 (refCells (mvd W i k) ++ sp).toArray ∧ Near [g] w wr
set_option maxRecDepth 100000 in
set_option maxHeartbeats 4000000 in
theorem dropRef_any (v : Value) (W : List RefT) (sp : List Value) (r : RefT) (gb : Nat) (w : World) (hl : W.length ≤ 1099511627776) (hnd : W.Nodup) (ho : OwnsC 23 2 w 0 v W.length (refCells W) sp) (h : Blk w gb 23 #[.int .i64 r.1, .int .i64 r.2.1]) (hne : v.ownBlock ≠ some gb) :
    Calls Tryd.prog 86 #[v, isRef gb] w (DropPost W r v w) := by
  obtain ⟨B, c, rfl, hlc, hcm, hrd, -⟩ := OwnsC.reads ho
  have hix := indexRef_any B W.length c W r gb w rfl hl (Refs.of hrd) h
  by_cases hm : r ∈ W
  case neg =>
    have hi : idxR W r = -1 := if_neg hm
    rw [hi] at hix
    have HO := Lib.hid ho
    have HE := Lib.hid (List.erase_of_not_mem hm)
    clear hi hm ho hrd h hlc hcm hne
    go_enter Tryd.func86, Tryd.ntmps86
    go_wp2_with fail
    refine hix.mono ?_
    rintro e w1 ⟨rfl, hb⟩
    have HB := Lib.hid hb
    clear hix hb
    go_wp2
    go_ret
    refine ⟨_, sp, rfl, ?_, rfl, Near.below HB.out⟩
    rw [HE.out]
    exact HO.out.ownBelow HB.out
  rcases ho with ⟨h1, h2, -⟩ | ⟨g, cap, hv, -, hg, hgc, hgm, -, hsp⟩
  · rw [List.eq_nil_of_length_eq_zero h2] at hm; exact absurd hm (by simp)
  injection hv with hB hn hc
  subst hB hc
  have hi : idxR W r = (W.idxOf r : Nat) := if_pos hm
  rw [hi] at hix
  have hlt : W.idxOf r < W.length := List.idxOf_lt_length_of_mem hm
  have hat : W[W.idxOf r]? = some r := by rw [List.getElem?_eq_getElem hlt, List.getElem_idxOf]
  have HE := Lib.hid (erase_at hm)
  have HW := Lib.hid (And.intro hl (And.intro hnd (And.intro hgc (And.intro hgm (And.intro hsp (And.intro hlt hat))))))
  have H0 := Lib.hid (And.intro hg (And.intro h (show gb ≠ g from fun e => hne (by rw [e]; rfl))))
  clear hi hm hrd h hne hlc hcm hnd hgc hgm hsp hg hat
  unfold isRef at hix ⊢
  generalize W.idxOf r = i at hix HE HW hlt ⊢
  have kn : ((i : Int) == -1) = false := beq_eq_false_iff_ne.2 (by omega)
  go_enter Tryd.func86, Tryd.ntmps86
  go_wp2_with fail
  refine hix.mono ?_
  rintro e w1 ⟨rfl, hb⟩
  have H1 := Lib.hid (And.intro (H0.out.1.below hb H0.out.1.lt) (And.intro (H0.out.2.1.below hb H0.out.2.1.lt) (Near.below (X := [g]) hb)))
  clear hix hb
  go_wp2_with fail
  go_loopw [5, 6] (fun v5 v6 wr => DelRel w W i g sp v5 v6 wr) (fun _ v _ => W.length - (intOf v).toNat)
  case atStart => exact ⟨0, hlt, by go_num, by go_num, by rw [mvd_zero]; exact H1.out.1, H1.out.2.2⟩
  case round =>
    obtain ⟨k, hk, rfl, rfl, hbg, hN⟩ := hrel
    have HK := Lib.hid (And.intro hbg hN)
    clear hbg hN kn
    by_cases hlt2 : i + k + 1 < W.length
    · obtain ⟨x, hx⟩ : ∃ x, W[i + k + 1]? = some x := ⟨_, List.getElem?_eq_getElem hlt2⟩
      have hml := mvd_length W (i := i) (k := k) hk
      have hxm : (mvd W i k)[i + k + 1]? = some x := (mvd_at W hk (by omega)).trans hx
      have hxl : i + k + 1 < (mvd W i k).length := by omega
      have hx' : (mvd W i k)[i + k + 1] = x := by rw [List.getElem?_eq_getElem hxl] at hxm; exact Option.some.inj hxm
      have hc := refCells_at (mvd W i k) (i + k + 1) hxl
      rw [hx'] at hc
      have hc1 : ∀ (u : Nat) (z : Value), (refCells (mvd W i k))[u]? = some z → wr.cell? ⟨g, u, none⟩ = some z := fun u z hz => HK.out.1.at_ u (by rw [List.getElem?_toArray, List.getElem?_append_left (by rcases Nat.lt_or_ge u (refCells (mvd W i k)).length with h | h; exact h; rw [List.getElem?_eq_none h] at hz; cases hz), hz])
      have d1 := hc1 _ _ hc.1
      have d2 := hc1 _ _ hc.2
      have hxr : x ≠ r := fun e => by
        have := (List.getElem?_inj (i := i) (j := i + k + 1) hlt HW.out.2.1).1 (HW.out.2.2.2.2.2.2.trans (e ▸ hx.symm))
        omega
      have kt := decide_eq_false hxr
      have HX := Lib.hid (And.intro hx (And.intro hxr hml))
      clear hx hxm hxl hx' hc hc1 hxr hml
      have hb2 := (Below.refl wr.heap.size wr).alloc (Nat.le_refl _) (.cells #[.int .i64 x.1, .int .i64 x.2.1] 23)
      have hbx2 := Blk.new wr 23 #[.int .i64 x.1, .int .i64 x.2.1]
      have hgb := H0.out.2.1.near HK.out.2 (fun hm => H0.out.2.2 (List.mem_singleton.1 hm))
      have hir := isref_any x r gb _ (hgb.below hb2 hgb.lt)
      have H2 := Lib.hid (And.intro hb2 hbx2)
      clear hb2 hbx2 hgb
      go_wp2_with fail
      refine hir.mono ?_
      rintro e w3 ⟨rfl, hbx⟩
      have hbx3 := H2.out.2.below hbx H2.out.2.lt
      have hb3 := H2.out.1.trans (hbx.mono H2.out.1.size)
      have hg3 := HK.out.1.below hb3 HK.out.1.lt
      have H3 := Lib.hid hb3
      have hsz : (i + k) * 2 + 2 ≤ (refCells (mvd W i k) ++ sp).toArray.size := by
        have := refCells_length (mvd W i k)
        have := HX.out.2.2
        simp only [List.size_toArray, List.length_append]; omega
      clear hir hbx hb3 d1 d2
      go_wp2_with (first
        | ((with_reducible show wpList _ _ _ ((⟨some 32, _, _, _, _, _⟩ : Oper) :: _) _ _); refine wpList_load_blk (o := ⟨some 32, _, _, _, _, _⟩) (hbx3) (by rfl) _ _ (by rfl) (by rfl) _ Tryd.underlying23 (by rfl) (size_ref) (by rfl) ?_)
        | ((with_reducible show wpList _ _ _ ((⟨none, _, _, _, _, _⟩ : Oper) :: _) _ _); refine wpList_store_in (o := ⟨none, _, _, _, _, _⟩) hg3 (by rfl) _ _ _ (by rfl) ((i + k) * 2) (by rfl) #[.int .i64 x.1, .int .i64 x.2.1] (by rfl) size_ref (by rfl) hsz (by simp [Value.oneCell']) ?_; intro w4 hg4 hu4; rw [refCells_setAll x (mvd W i k) sp (i + k) (by have := HX.out.2.2; omega), mvd_step W hlt2 x HX.out.1] at hg4; have H4 := Lib.hid (And.intro hg4 ((HK.out.2.trans (Near.below H3.out)).trans (Near.upd hu4 (List.mem_singleton_self _)))); clear hg4 hu4 hsz)
        | fail)
      go_roundw
      case rel => exact ⟨k + 1, by omega, by go_num, by go_num, H4.out⟩
      case measure => simp [intOf]; omega
    · obtain rfl : k = W.length - i - 1 := by omega
      obtain ⟨y, hy⟩ := mvd_end W hlt
      rw [← HE.out] at hy
      have hlen : i + (W.length - i - 1) = W.length - 1 := by omega
      have hel : (W.erase r).length = W.length - 1 := by
        rw [HE.out, List.length_append, List.length_take, List.length_drop]; omega
      have hbg := HK.out.1
      rw [hy] at hbg
      have hsz : (W.length - 1) * 2 + 2 ≤ (refCells (W.erase r ++ [y]) ++ sp).toArray.size := by
        have := refCells_length (W.erase r ++ [y])
        simp only [List.size_toArray, List.length_append, List.length_singleton] at this ⊢; omega
      have hset : setAll (refCells (W.erase r ++ [y]) ++ sp).toArray ((W.length - 1) * 2) [.int .i64 0, .int .i64 0] = (refCells (W.erase r) ++ (refCells [(0, 0, ())] ++ sp)).toArray := by
        have h := refCells_setAll (0, 0, ()) (W.erase r ++ [y]) sp (W.length - 1) (by rw [List.length_append, hel, List.length_singleton]; omega)
        rw [show (W.erase r ++ [y]).set (W.length - 1) (0, 0, ()) = W.erase r ++ [(0, 0, ())] by rw [List.set_append_right _ _ (by omega), hel]; simp, refCells_app (W.erase r) [(0, 0, ())], List.append_assoc] at h
        exact h
      have HS := Lib.hid (And.intro hel (And.intro hset (And.intro HK.out.2 hlt)))
      have hgc := HW.out.2.2.1
      have kn2 : decide (((i + (W.length - i - 1) + 1 : Nat) : Int) < (W.length : Int)) = false := decide_eq_false (by omega)
      have hzr := zeroRefrun
      have hzc : (Builtin.zeroCells (Value.agg #[.int .i64 0, .int .i64 0]).cells 1).toList = [.int .i64 0, .int .i64 0] := by kernel_rfl
      have hsb : (Tryd.prog.info? 23).map (·.size) = some 2 := size_ref
      clear hy hel hset
      rw [hlen] at kn2 ⊢
      have hW1 : W.length - (W.length - 1) = 1 := by omega
      go_wp2_with (first
        | ((with_reducible show wpList _ _ _ ((⟨some 38, _, _, _, _, _⟩ : Oper) :: _) _ _); refine wpList_cut2 (o := ⟨some 38, _, _, _, _, _⟩) (by rfl) _ _ _ (by rfl) 23 Tryd.underlying29 hsb g W.length c .i64 (W.length - 1) (by rfl) (by rfl) (by omega) (by omega) ?_; rw [hW1])
        | ((with_reducible show wpList _ _ _ ((⟨none, _, _, _, _, _⟩ : Oper) :: _) _ _); refine wpList_clear_one (o := ⟨none, _, _, _, _, _⟩) (by rfl) 29 23 _ (by rfl) Tryd.underlying29 (.agg #[.int .i64 0, .int .i64 0]) hzr [.int .i64 0, .int .i64 0] hzc g ((W.length - 1) * 2) _ (by rfl) _ _ hbg hsz (by simp [Value.oneCell']) ?_; intro w4 hg4 hu4; rw [HS.out.2.1] at hg4; have H4 := Lib.hid (And.intro hg4 (HS.out.2.2.1.trans (Near.upd hu4 (List.mem_singleton_self _)))); clear hg4 hu4)
        | ((with_reducible show wpList _ _ _ ((⟨some 41, _, _, _, _, _⟩ : Oper) :: _) _ _); refine wpList_cutHi2 (o := ⟨some 41, _, _, _, _, _⟩) (by rfl) _ _ _ (by rfl) 23 Tryd.underlying29 hsb g W.length c .i64 (W.length - 1) (by rfl) (by rfl) (by omega) ?_)
        | fail)
      go_ret
      refine ⟨_, refCells [(0, 0, ())] ++ sp, rfl, .inr ⟨g, c, ?_, Nat.zero_le _, H4.out.1, ?_, HW.out.2.2.2.1, refCells_length _, ?_⟩, rfl, H4.out.2⟩
      · rw [HS.out.1]; rfl
      · rw [HS.out.1]; omega
      · rw [HS.out.1, List.length_append, refCells_length, HW.out.2.2.2.2.1, List.length_singleton]; omega
end Go.Proofs.YthfdjemlibecgaaDoor
