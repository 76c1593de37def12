/- Which refs are not there: the grid's Reach. Conditions: the grid is known. -/
import Derived.Test.YtfoegmjpfkmggaaGreatDoorMGridKeeps19
import Derived.Lib.ConvBytes
namespace Go.Proofs.YtfoegmjpfkmggaaGreatDoor
open Go.RowKit
attribute [local go_sem] Oper.semAt_some
theorem ownOf {e : TypeId} {size base n : Nat} {w : World} {ad : Addr} {c : Nat} {xs sp : List Value} (h : OwnsC e size w base (.slice (some ad) n c) n xs sp) : (Value.slice (some ad) n c).ownBlock = some ad.block := by
  rcases h with ⟨h, _⟩ | ⟨g, cap, h, -⟩
  · cases h
  · injection h with h1 h2 h3
    injection h1 with h1
    subst h1; rfl
/-- What Reach leaves: the grid, and where its answer lies. -/
def RPost (w : World) (q : GPl) (A : Option Addr) (g : Grd) (d : Dsk) (f : Option Fus) (w' : World) : Prop :=
  ∃ q' : GPl, q'.gg = q.gg ∧ q'.p = q.p ∧ q'.gf = q.gf ∧ GridR w' q' g d f ∧ Near q.all w w' ∧ (∀ x ∈ q'.all, x ∈ q.all ∨ w.heap.size ≤ x) ∧ ∀ ad, A = some ad → w.heap.size ≤ ad.block ∧ ad.block ∉ q'.all
def gitem (g : Grd) (d : Dsk) (root : RefT) (i : Nat) : RefT := (gwalk g d root)[i]?.getD (0, 0, ())
/-- What stands when some refs have been told. -/
structure RhIn (w : World) (S : Nat) (q : GPl) (g : Grd) (d : Dsk) (f : Option Fus) (root : RefT) (M L : List RefT) (Q : GPl) (ov : Value) (sp : List Value) (W : World) : Prop where
  sz : w.heap.size + 2 ≤ S
  b0 : Blk W w.heap.size 65 #[.pointer (some ⟨q.gg, 0, none⟩)]
  b2 : Blk W S 114 #[ov]
  b3 : Blk W (S + 1) 65 #[.pointer (some ⟨q.gg, 0, none⟩)]
  b4 : Blk W (S + 2) 113 #[.int .i64 root.1, .int .i64 root.2.1]
  eg : Q.gg = q.gg ∧ Q.p = q.p ∧ Q.gf = q.gf ∧ Q.gi = q.gi ∧ Q.gs = q.gs
  gr : GridR W Q (g.wants M) d f
  near : Near q.all w W
  new : ∀ x ∈ Q.all, x ∈ q.all ∨ S + 3 ≤ x
  own : OwnsC 113 2 W (S + 3) ov L.length (refCells L) sp
  off : ∀ x, ov.ownBlock = some x → x ∉ Q.all
def RhAt (w : World) (S : Nat) (q : GPl) (g : Grd) (d : Dsk) (f : Option Fus) (root : RefT) (k : Nat) (X : List Nat) (W : World) : Prop :=
  ∃ Q ov sp, RhIn w S q g d f root (gsome g d root k) (gsome g d root k) Q ov sp W ∧ X = Q.gw.toList ++ ov.ownBlock.toList
section
variable {w W W' : World} {q Q : GPl} {g : Grd} {d : Dsk} {f : Option Fus} {root : RefT} {M L : List RefT} {ov : Value} {sp : List Value} {S : Nat}
theorem RhIn.keptW {B : Nat} (h : RhIn w S q g d f root M L Q ov sp W) (k : Kept B W W') (hB : S + 3 ≤ B) (hlt : ∀ x ∈ q.all, x < w.heap.size) : RhIn w S q g d f root M L Q ov sp W' := by
  have h0 := h.sz
  have h1 : Q.p.gm < B := by rw [h.eg.2.1]; have := hlt q.p.gm (GPl.mem.2 (by simp [Pl.all])); omega
  have h2 : Q.gi < B := by rw [h.eg.2.2.2.1]; have := hlt q.gi (GPl.mem.2 (by simp)); omega
  exact ⟨h.sz, h.b0.keptW k, h.b2.keptW k, h.b3.keptW k, h.b4.keptW k, h.eg, h.gr.keptW k h1 h2, h.near.keptW k (by omega), h.new, OwnsC.keptW h.own k, h.off⟩
theorem RhIn.below (h : RhIn w S q g d f root M L Q ov sp W) (k : Below W.heap.size W W') : RhIn w S q g d f root M L Q ov sp W' :=
  ⟨h.sz, h.b0.below k h.b0.lt, h.b2.below k h.b2.lt, h.b3.below k h.b3.lt, h.b4.below k h.b4.lt, h.eg, h.gr.below k, h.near.trans (Near.below k), h.new, h.own.ownBelow k, h.off⟩
theorem RhIn.lt (h : RhIn w S q g d f root M L Q ov sp W) : ∀ x ∈ Q.gw.toList ++ ov.ownBlock.toList, x < W.heap.size := fun x hx => by
  rcases List.mem_append.1 hx with hx | hx
  · exact h.gr.lt x (GPl.mem.2 (.inr (.inr (.inr (.inl (Option.mem_toList.1 hx))))))
  · exact (OwnsC.lt h.own x (Option.mem_toList.1 hx)).2
theorem RhIn.at_ (h : RhIn w S q g d f root M L Q ov sp W) (ho : d.isOut f = false) : GAt q.gg (S + 1) g d W ∧ Blk W (S + 2) 113 #[.int .i64 root.1, .int .i64 root.2.1] :=
  ⟨⟨h.b3, Q, _, f, h.gr, h.eg.1, Grd.wants_n M g, ho⟩, h.b4⟩
theorem RhIn.offQ (h : RhIn w S q g d f root M L Q ov sp W) (hlt : ∀ x ∈ q.all, x < w.heap.size) {x : Nat} (h1 : w.heap.size ≤ x) (h2 : x < S + 3) : x ∉ Q.all := fun hm => (h.new x hm).elim (fun k => by have := hlt x k; omega) fun k => by omega
theorem gw_grown {Q' : GPl} {B : Nat} (ap : GApart Q') (eg : Q'.gg = Q.gg ∧ Q'.p = Q.p ∧ Q'.gf = Q.gf ∧ Q'.gi = Q.gi ∧ Q'.gs = Q.gs) (hn : ∀ x ∈ Q'.all, x ∈ Q.all ∨ B ≤ x) : ∀ x, Q'.gw = some x → Q.gw = some x ∨ B ≤ x := fun x hx => by
  rcases hn x (GPl.mem.2 (.inr (.inr (.inr (.inl hx))))) with h | h
  · obtain ⟨k1, k2, k3⟩ := ap.wo x hx
    have k4 := ap.w x hx
    rcases GPl.mem.1 h with e | e | e | e | e
    · exact absurd (e.trans eg.1.symm) k1
    · exact absurd (e.trans eg.2.2.2.2.symm) k2
    · exact absurd (e.trans eg.2.2.2.1.symm) k3
    · exact .inl e
    · rw [← eg.2.1, ← eg.2.2.1] at e; exact absurd e k4
  · exact .inr h
/-- The list of what is told has grown by one. -/
theorem RhIn.told {W4 : World} {Q : GPl} {ov v4 : Value} {sp4 : List Value} {r : RefT} (h : RhIn w S q g d f root M L Q ov sp W) (k : Near ov.ownBlock.toList W W4) (ho : OwnsC 113 2 W4 (S + 3) v4 (L ++ [r]).length (refCells (L ++ [r])) sp4) (hv : v4.ownBlock = ov.ownBlock ∨ ∃ x, v4.ownBlock = some x ∧ W.heap.size ≤ x) (hlt : ∀ x ∈ q.all, x < w.heap.size) :
    RhIn w S q g d f root M (L ++ [r]) Q v4 sp4 (W4.setCell ⟨S, 0, none⟩ v4) := by
  have hu : Near [S] W4 (W4.setCell ⟨S, 0, none⟩ v4) := Near.upd ((Upd.refl _ _).set 0 _) (List.mem_singleton_self _)
  have hob : ∀ x, ov.ownBlock = some x → S + 3 ≤ x ∧ x < W.heap.size := OwnsC.lt h.own
  have hn : ∀ x, x < S + 3 → x ∉ ov.ownBlock.toList := fun x hx hm => by have := (hob x (Option.mem_toList.1 hm)).1; omega
  have hvb : ∀ x, v4.ownBlock = some x → S + 3 ≤ x := fun x hx => (OwnsC.lt ho x hx).1
  have hQ : ∀ x ∈ Q.all, x ∉ ov.ownBlock.toList := fun x hx hm => h.off x (Option.mem_toList.1 hm) hx
  have hQS : ∀ x ∈ Q.all, x ∉ [S] := fun x hx hm => by rw [List.mem_singleton.1 hm] at hx; exact h.offQ hlt (by have := h.sz; omega) (by omega) hx
  have hsz := h.sz
  have ne : ∀ x, x ≠ S → x ∉ [S] := fun x hx hm => hx (List.mem_singleton.1 hm)
  refine ⟨h.sz, (h.b0.near k (hn _ (by omega))).near hu (ne _ (by omega)), ((h.b2.near k (hn _ (by omega))).set_ 0 v4).sub (by simp), (h.b3.near k (hn _ (by omega))).near hu (ne _ (by omega)), (h.b4.near k (hn _ (by omega))).near hu (ne _ (by omega)), h.eg, (h.gr.near k hQ).near hu hQS, ?_, h.new, OwnsC.nearO ho hu (fun x hx => ne _ (by have := hvb x hx; omega)), fun x hx => ?_⟩
  · exact (h.near.high k (fun x hx => by have := (hob x (Option.mem_toList.1 hx)).1; omega)).high hu (fun x hx => by rw [List.mem_singleton.1 hx]; omega)
  · rcases hv with e | ⟨y, e, hy⟩
    · exact h.off x (e.symm.trans hx)
    · rw [hx] at e; injection e with e
      subst e
      exact fun hm => by have := h.gr.lt x hm; omega
theorem RhIn.grid {M' : List RefT} (h : RhIn w S q g d f root M L Q ov sp W) (e : g.wants M' = g.wants M) : RhIn w S q g d f root M' L Q ov sp W :=
  ⟨h.sz, h.b0, h.b2, h.b3, h.b4, h.eg, by rw [e]; exact h.gr, h.near, h.new, h.own, h.off⟩
/-- One more is wanted. -/
theorem RhIn.wanted {M' : List RefT} {Q' : GPl} {r : RefT} (h : RhIn w S q g d f root M L Q ov sp W) (e : g.wants M' = (g.wants M).want r) (hlt : ∀ x ∈ q.all, x < w.heap.size)
    (eg : Q'.gg = Q.gg ∧ Q'.p = Q.p ∧ Q'.gf = Q.gf ∧ Q'.gi = Q.gi ∧ Q'.gs = Q.gs) (hG : GridR W' Q' ((g.wants M).want r) d f) (k : Near Q.all W W') (hn : ∀ x ∈ Q'.all, x ∈ Q.all ∨ W.heap.size ≤ x) : RhIn w S q g d f root M' L Q' ov sp W' := by
  have hsz := h.sz
  have hs4 := h.b4.lt
  have off : ∀ x, w.heap.size ≤ x → x < S + 3 → x ∉ Q.all := fun x h1 h2 => h.offQ hlt h1 h2
  refine ⟨h.sz, h.b0.near k (off _ (by omega) (by omega)), h.b2.near k (off _ (by omega) (by omega)), h.b3.near k (off _ (by omega) (by omega)), h.b4.near k (off _ (by omega) (by omega)), ⟨eg.1.trans h.eg.1, eg.2.1.trans h.eg.2.1, eg.2.2.1.trans h.eg.2.2.1, eg.2.2.2.1.trans h.eg.2.2.2.1, eg.2.2.2.2.trans h.eg.2.2.2.2⟩, by rw [e]; exact hG, Near.mix h.near k (fun y hy => (h.new y hy).imp id fun h => by omega), fun x hx => ?_, OwnsC.nearO h.own k h.off, fun x hx hm => ?_⟩
  · rcases hn x hx with h1 | h1
    · exact h.new x h1
    · exact .inr (by omega)
  · rcases hn x hm with h1 | h1
    · exact h.off x hx h1
    · have := (OwnsC.lt h.own x hx).2; omega
/-- What the body may write: the list's block and the lists' own. -/
theorem RhIn.low (h : RhIn w S q g d f root M L Q ov sp W) (hlt : ∀ x ∈ q.all, x < w.heap.size) : ∀ x ∈ Q.all, x < S + 3 ∨ x ∈ Q.gw.toList ++ ov.ownBlock.toList := fun x hx => by
  have h0 := h.sz
  have key : ∀ y ∈ q.all, y < S + 3 := fun y hy => by have := hlt y hy; omega
  rcases GPl.mem.1 hx with e | e | e | e | e
  · rw [e, h.eg.1]; exact .inl (key _ (GPl.mem.2 (by simp)))
  · rw [e, h.eg.2.2.2.2]; exact .inl (key _ (GPl.mem.2 (by simp)))
  · rw [e, h.eg.2.2.2.1]; exact .inl (key _ (GPl.mem.2 (by simp)))
  · exact .inr (by rw [e]; simp)
  · rw [h.eg.2.1, h.eg.2.2.1] at e
    exact .inl (key _ (GPl.mem.2 (.inr (.inr (.inr (.inr e))))))
end
set_option maxRecDepth 100000 in
set_option maxHeartbeats 8000000 in
theorem greach_any {w : World} {q : GPl} {g : Grd} {d : Dsk} {f : Option Fus} (h : GridR w q g d f) (hlen : g.W.length ≤ 1000000000) (root : RefT) :
    Calls Tryz.prog 99 #[.pointer (some ⟨q.gg, 0, none⟩), .agg #[.int .i64 root.1, .int .i64 root.2.1]] w fun e w' =>
      ∃ A c, e = .returned (.tuple #[.slice A (greach g d f root).2.1.length c, .int .i64 (greach g d f root).1]) ∧ Refs w' A (greach g d f root).2.1 ∧ (greach g d f root).2.1.length ≤ c ∧ c ≤ 9223372036854775807 ∧ RPost w q A (greach g d f root).2.2 d f w' := by
  have hB := ((Below.refl w.heap.size w).alloc (Nat.le_refl _) (.cells #[.pointer (some ⟨q.gg, 0, none⟩)] 65)).alloc (by simp) (.cells #[.int .i64 root.1, .int .i64 root.2.1] 113)
  have hb0 := (Blk.new w 65 #[.pointer (some ⟨q.gg, 0, none⟩)]).alloc (.cells #[.int .i64 root.1, .int .i64 root.2.1] 113)
  have hb1 := Blk.new' (w.alloc (.cells #[.pointer (some ⟨q.gg, 0, none⟩)] 65)) 113 #[.int .i64 root.1, .int .i64 root.2.1] (n := w.heap.size + 1) (by simp)
  have hz2 : ((w.alloc (.cells #[.pointer (some ⟨q.gg, 0, none⟩)] 65)).alloc (.cells #[.int .i64 root.1, .int .i64 root.2.1] 113)).heap.size = w.heap.size + 2 := by simp
  have H0 := Lib.hid (And.intro h (And.intro hlen (And.intro hB (And.intro hb0 (And.intro hb1 (And.intro h.lt (And.intro h.ok.h512 hz2)))))))
  clear h hlen hB hb0 hb1 hz2
  refine callsIn_wide (n := 3).1 ?_
  refine callsIn_of_wp_marks Tryz.func99 rfl trivial ?_ rfl
  simp only [Tryz.ntmps99, List.size_toArray, List.length_cons, List.length_nil, Nat.reduceAdd, Nat.reduceSub, Array.replicate_succ, Array.replicate_zero, List.push_toArray, List.append_toArray, List.nil_append, List.cons_append]
  refine wpIn_wide.2 ?_
  go_wp2_with fail
  generalize ((w.alloc (.cells #[.pointer (some ⟨q.gg, 0, none⟩)] 65)).alloc (.cells #[.int .i64 root.1, .int .i64 root.2.1] 113)) = w2 at H0 ⊢
  have hG2 := H0.out.1.below H0.out.2.2.1
  have d0 := H0.out.2.2.2.1.at_ 0 (v := .pointer (some ⟨q.gg, 0, none⟩)) rfl
  have hbr := H0.out.2.2.2.2.1
  refine (gready_any hG2).mono ?_
  rintro e w2' ⟨rfl, hw⟩
  obtain rfl := hw.symm
  clear hw
  by_cases hq : d.isOut f = true
  · have HL : Hid (greach g d f root = (11, [], g)) := Lib.hid (if_pos hq)
    rw [if_pos hq]
    clear hq hG2 d0 hbr
    go_wp2
    refine ⟨_, results_tmp2 (by rfl) _ _ _, ?_⟩
    rw [HL.out]
    exact ⟨none, 0, rfl, fun h => absurd h (by simp), Nat.le_refl _, by omega, q, rfl, rfl, rfl, H0.out.1.below H0.out.2.2.1, Near.below H0.out.2.2.1, fun _ hx => .inl hx, fun ad e => by cases e⟩
  rw [if_neg hq]
  have HQ := Lib.hid (show d.isOut f = false by simpa using hq)
  clear hq
  go_wp2_with (first
    | ((with_reducible show wpList _ _ _ ((⟨some 16, _, _, _, _, _⟩ : Oper) :: _) _ _); refine wpList_load_blk (o := ⟨some 16, _, _, _, _, _⟩) (hbr) (by rfl) _ _ (by rfl) (by rfl) _ Tryz.underlying113 (by rfl) (size_ref) (by rfl) ?_)
    | fail)
  refine (gof_any hG2 root).mono ?_
  rintro e w3 ⟨rfl, hbx⟩
  have hB3 := H0.out.2.2.1.trans (hbx.mono H0.out.2.2.1.size)
  have hb0 := H0.out.2.2.2.1.below hbx H0.out.2.2.2.1.lt
  have hb1 := H0.out.2.2.2.2.1.below hbx H0.out.2.2.2.2.1.lt
  have hsz3 := hbx.size
  have H3 := Lib.hid (And.intro hB3 (And.intro hb0 (And.intro hb1 hsz3)))
  clear hbx hbr hB3 hG2 hb0 hb1 d0 hsz3
  by_cases ho : g.of root = true
  case neg =>
    have ho' : g.of root = false := by simpa using ho
    have HL : Hid (greach g d f root = (2, [], g)) := Lib.hid (by unfold greach; rw [if_neg (by rw [HQ.out]; simp), if_pos ho'])
    rw [ho']
    clear ho ho'
    go_wp2
    refine ⟨_, results_tmp2 (by rfl) _ _ _, ?_⟩
    rw [HL.out]
    exact ⟨none, 0, rfl, fun h => absurd h (by simp), Nat.le_refl _, by omega, q, rfl, rfl, rfl, H0.out.1.below H3.out.1, Near.below H3.out.1, fun _ hx => .inl hx, fun ad e => by cases e⟩
  have HL : Hid (greach g d f root = (0, gmiss g d root, g.wants (gmiss g d root))) := Lib.hid (by unfold greach; rw [if_neg (by rw [HQ.out]; simp), if_neg (by rw [ho]; simp)])
  rw [ho]
  clear ho
  have hbl4 := (Below.refl w3.heap.size w3).alloc (Nat.le_refl _) (.cells #[.slice none 0 0] 114)
  have hbr := H3.out.2.2.1.below hbl4 H3.out.2.2.1.lt
  have d0 := (H3.out.2.1.below hbl4 H3.out.2.1.lt).at_ 0 (v := .pointer (some ⟨q.gg, 0, none⟩)) rfl
  clear hbl4
  go_wp2_with (first
    | ((with_reducible show wpList _ _ _ ((⟨some 20, _, _, _, _, _⟩ : Oper) :: _) _ _); refine wpList_load_blk (o := ⟨some 20, _, _, _, _, _⟩) (hbr) (by rfl) _ _ (by rfl) (by rfl) _ Tryz.underlying113 (by rfl) (size_ref) (by rfl) ?_)
    | fail)
  refine (reached_any q.gg root _).mono ?_
  rintro e w6 ⟨rfl, rfl⟩
  have eb : (w3.alloc (.cells #[.slice none 0 0] 114)).heap.size = w3.heap.size + 1 := by simp
  have hsz := H0.out.2.2.2.2.2.2.2
  have h6b := (((Below.refl w3.heap.size w3).alloc (Nat.le_refl _) (.cells #[.slice none 0 0] 114)).alloc (by simp) (.cells #[.pointer (some ⟨q.gg, 0, none⟩)] 65)).alloc (by simp; omega) (.cells #[.int .i64 root.1, .int .i64 root.2.1] 113)
  have hS : RhIn w w3.heap.size q g d f root [] [] q (.slice none 0 0) [] (((w3.alloc (.cells #[.slice none 0 0] 114)).alloc (.cells #[.pointer (some ⟨q.gg, 0, none⟩)] 65)).alloc (.cells #[.int .i64 root.1, .int .i64 root.2.1] 113)) :=
    ⟨by have := H3.out.2.2.2; omega, H3.out.2.1.below h6b H3.out.2.1.lt, ((Blk.new w3 _ _).alloc _).alloc _, (Blk.new' _ _ _ (by simp)).alloc _, Blk.new' _ _ _ (by simp), ⟨rfl, rfl, rfl, rfl, rfl⟩, (H0.out.1.below H3.out.1).below h6b, Near.below (H3.out.1.trans (h6b.mono H3.out.1.size)), fun _ hx => .inl hx, OwnsC.nil _ _ _ _, fun _ e => by cases e⟩
  have hz6 : (((w3.alloc (.cells #[.slice none 0 0] 114)).alloc (.cells #[.pointer (some ⟨q.gg, 0, none⟩)] 65)).alloc (.cells #[.int .i64 root.1, .int .i64 root.2.1] 113)).heap.size = w3.heap.size + 3 := by simp
  rw [eb]
  simp only [show w3.heap.size + 1 + 1 = w3.heap.size + 2 from rfl]
  generalize (((w3.alloc (.cells #[.slice none 0 0] 114)).alloc (.cells #[.pointer (some ⟨q.gg, 0, none⟩)] 65)).alloc (.cells #[.int .i64 root.1, .int .i64 root.2.1] 113)) = w6 at hS hz6 ⊢
  generalize w3.heap.size = S at hS hz6 ⊢
  have H6 := Lib.hid (And.intro hS hz6)
  have HA := Lib.hid (And.intro H0.out.1 (And.intro H0.out.2.1 (And.intro H0.out.2.2.2.2.2.1 H0.out.2.2.2.2.2.2.1)))
  clear hS hz6 eb h6b hsz hbr d0 H3 H0
  go_wp2_with fail
  refine wpIn_wide (n := 3).1 ?_
  refine wpIn_rangeRowY rfl (by omega) (gf := 167) (lb := #[.pointer (some ⟨S + 1, 0, none⟩), .pointer (some ⟨S + 2, 0, none⟩)]) rfl trivial (enters_of Tryz.func167 (by kernel_rfl) rfl)
    (encR g d (gitem g d root)) (fun _ => rfl) (gwalk g d root).length (fun k X W => RhAt w S q g d f root k X W) (fun _ _ => False)
    (fun k X W h => ?hIX) (fun k X W W' h kw => ?hI) (fun _ _ _ h _ => h) ⟨q, .slice none 0 0, [], H6.out.1, rfl⟩ ?row ?round ?done (fun _ _ _ _ h => h.elim)
  case hIX =>
    obtain ⟨Q, ov, sp, h1, rfl⟩ := h
    exact h1.lt
  case hI =>
    obtain ⟨Q, ov, sp, h1, h2⟩ := h
    exact ⟨Q, ov, sp, h1.keptW kw (by rw [H6.out.2]; exact Nat.le_refl _) HA.out.2.2.1, h2⟩
  case row =>
    refine reached_row 2 (by omega) q.gg (S + 1) (S + 2) g d root _ (fun i x hx => by unfold gitem; rw [hx]; rfl) _ fun k X W h => ?_
    obtain ⟨Q, ov, sp, h1, h2⟩ := h
    exact h1.at_ HQ.out
  case round =>
    intro l k X W hl1 hl2 hI hk
    obtain ⟨Q, ov, sp, h1, rfl⟩ := hI
    have hs := gsome_succ hk
    have hle := gsome_len g d root k
    unfold encR
    rw [show gitem g d root k = (gwalk g d root)[k] by unfold gitem; rw [List.getElem?_eq_getElem hk]; rfl]
    generalize (gwalk g d root)[k] = r at hs ⊢
    have hzr := zeroRefrun
    have HI := Lib.hid (And.intro h1 (And.intro hle hs))
    clear h1 hle hs hk
    cases hgk : gok g d r
    case true =>
      rw [hgk, if_pos rfl] at HI
      gi_wp2_with (first
        | ((with_reducible show wpListIn _ _ _ _ _ ((⟨none, _, _, _, _, _⟩ : Oper) :: _) _ _); refine wpListIn_of (by rfl) ?_; refine wpList_store_blk (o := ⟨none, _, _, _, _, _⟩) ((Blk.new W 113 #[.int .i64 0, .int .i64 0])) (by rfl) _ _ _ (by rfl) (by rfl) (#[.int .i64 r.1, .int .i64 r.2.1]) (by rfl) (size_ref) (by rfl) (by rfl) (by simp [Value.oneCell']) ?_; intro W5 h5 hu5; refine ⟨rfl, ?_⟩)
        | fail)
      refine ⟨((Below.refl _ _).alloc (Nat.le_refl _) _).upd hu5 (Nat.le_refl _), fun W6 hW6 => ?_⟩
      have hn5 := ((Below.refl W.heap.size W).alloc (Nat.le_refl _) (.cells #[.int .i64 0, .int .i64 0] 113)).upd hu5 (Nat.le_refl _)
      have hI6 := (HI.out.1.below hn5).keptW hW6 (by rw [H6.out.2]; exact Nat.le_refl _) HA.out.2.2.1
      have HI6 := Lib.hid hI6
      clear h5 hu5 hn5 hI6 hW6
      gi_wp2_with fail
      exact ⟨Young.near (Near.refl [] _) (by simp), _, ⟨Q, ov, sp, by rw [HI.out.2.2]; exact HI6.out, rfl⟩, Grown.refl _ _⟩
    case false =>
      rw [hgk, if_neg (by simp)] at HI
      obtain ⟨B, c, hov, hc, hc2, -, -⟩ := OwnsC.reads HI.out.1.own
      subst hov
      clear hc hc2
      gi_wp2_with (first
        | ((with_reducible show wpListIn _ _ _ _ _ ((⟨none, _, _, _, _, _⟩ : Oper) :: _) _ _); refine wpListIn_of (by rfl) ?_; refine wpList_store_blk (o := ⟨none, _, _, _, _, _⟩) ((Blk.new W 113 #[.int .i64 0, .int .i64 0])) (by rfl) _ _ _ (by rfl) (by rfl) (#[.int .i64 r.1, .int .i64 r.2.1]) (by rfl) (size_ref) (by rfl) (by rfl) (by simp [Value.oneCell']) ?_; intro W5 h5 hu5; refine ⟨rfl, ?_⟩)
        | fail)
      refine ⟨((Below.refl _ _).alloc (Nat.le_refl _) _).upd hu5 (Nat.le_refl _), fun W6 hW6 => ?_⟩
      have hn5 := ((Below.refl W.heap.size W).alloc (Nat.le_refl _) (.cells #[.int .i64 0, .int .i64 0] 113)).upd hu5 (Nat.le_refl _)
      have hI6 := (HI.out.1.below hn5).keptW hW6 (by rw [H6.out.2]; exact Nat.le_refl _) HA.out.2.2.1
      have h6 : Blk W6 W.heap.size 113 #[.int .i64 r.1, .int .i64 r.2.1] := h5.keptW hW6
      have hgx := HI.out.1.lt
      have hgr := HI.out.1.gr.lt
      have hgs : S + 3 ≤ W.heap.size := by have := H6.out.2; omega
      have HI6 := Lib.hid (And.intro hI6 (And.intro h6 (And.intro hgx (And.intro hgr (And.intro hgs HI.out.2)))))
      clear h5 hu5 hn5 hI6 hW6 hgx hgr hgs HI hl1 hl2
      generalize W.heap.size = gx at HI6 h6 ⊢
      have hbl := (Below.refl W6.heap.size W6).alloc (Nat.le_refl _) (.cells #[.int .i64 r.1, .int .i64 r.2.1] 113)
      have hra : Reads (W6.alloc (.cells #[.int .i64 r.1, .int .i64 r.2.1] 113)) (some ⟨W6.heap.size, 0, none⟩) [.int .i64 r.1, .int .i64 r.2.1] := reads_new W6 113 [.int .i64 r.1, .int .i64 r.2.1]
      have hoa := Lib.hid (And.intro (OwnsC.ownBelow HI6.out.1.own hbl) (And.intro hra hbl))
      have d2 := HI6.out.1.b2.at_ 0 (v := .slice B (gsome g d root k).length c) rfl
      clear hra hbl
      gi_wp2_with (first
        | ((with_reducible show wpListIn _ _ _ _ _ ((⟨some 26, _, _, _, _, _⟩ : Oper) :: _) _ _); refine wpListIn_of (by rfl) ?_; refine wpList_load_blk (o := ⟨some 26, _, _, _, _, _⟩) (h6) (by rfl) _ _ (by rfl) (by rfl) _ Tryz.underlying113 (by rfl) (size_ref) (by rfl) ?_; refine ⟨rfl, ?_⟩)
        | ((with_reducible show wpListIn _ _ _ _ _ ((⟨some 28, _, _, _, _, _⟩ : Oper) :: _) _ _); refine wpListIn_round (by rfl) ?_; refine wpList_append_vals (o := ⟨some 28, _, _, _, _, _⟩) (by rfl) _ _ _ (by rfl) (S + 3) 113 (.agg #[.int .i64 0, .int .i64 0]) 2 16 Tryz.underlying114 infoRef (by rfl) (by omega) (.slice B (gsome g d root k).length c) (gsome g d root k).length (refCells (gsome g d root k)) sp (by rfl) hoa.out.1 (some ⟨W6.heap.size, 0, none⟩) 1 1 [.int .i64 r.1, .int .i64 r.2.1] (by rfl) (by rfl) hoa.out.2.1 (by simp [Value.oneCell']) (by have := HI6.out.2.2.2.2.2.1; have := HA.out.2.2.2; simp only [maxLen]; omega) (by have := HI6.out.2.2.2.2.2.1; have := HA.out.2.2.2; omega) (by have := HI6.out.1.b4.lt; have := hoa.out.2.2.size; omega) ?_; intro v4 W8 sp4 ho4 hg4 hv4 hn4; refine stopped ?_)
        | fail)
      refine Stopped.mk ?_
      have hlt := HA.out.2.2.1
      have hk8 : Near (Value.slice B (gsome g d root k).length c).ownBlock.toList W6 W8 := (Near.below hoa.out.2.2).trans (Near.grown hg4 (fun x hx => Option.mem_toList.2 hx))
      have hvx : v4.ownBlock = (Value.slice B (gsome g d root k).length c).ownBlock ∨ ∃ x, v4.ownBlock = some x ∧ W6.heap.size ≤ x := hv4.imp id fun e => ⟨_, e, hoa.out.2.2.size⟩
      have ho4' : OwnsC 113 2 W8 (S + 3) v4 (gsome g d root k ++ [r]).length (refCells (gsome g d root k ++ [r])) sp4 := by
        rw [List.length_append, show refCells (gsome g d root k ++ [r]) = refCells (gsome g d root k) ++ [.int .i64 r.1, .int .i64 r.2.1] from refCells_snoc _ r.1 r.2.1]
        exact ho4
      have h9 := HI6.out.1.told hk8 ho4' hvx hlt
      have hob : ∀ x, x < S + 3 → x ∉ (Value.slice B (gsome g d root k).length c).ownBlock.toList := fun x hx hm => by have := (OwnsC.lt HI6.out.1.own x (Option.mem_toList.1 hm)).1; omega
      have hb8 := HI6.out.1.b2.near hk8 (hob S (by omega))
      have d8 := hb8.at_ 0 (v := .slice B (gsome g d root k).length c) rfl
      have f8 := hb8.frozen 0
      have hu9 : Near [S] W8 (W8.setCell ⟨S, 0, none⟩ v4) := Near.upd ((Upd.refl _ _).set 0 _) (List.mem_singleton_self _)
      have hr9 := (HI6.out.2.1.near hk8 (fun hm => by have := HI6.out.2.2.1 gx (List.mem_append_right _ hm); omega)).near hu9 (fun hm => by have := HI6.out.2.2.2.2.1; have := List.mem_singleton.1 hm; omega)
      have d9 := h9.b0.at_ 0 (v := .pointer (some ⟨q.gg, 0, none⟩)) rfl
      have hy9 : Young w6.heap.size (Q.gw.toList ++ (Value.slice B (gsome g d root k).length c).ownBlock.toList) W6 (W8.setCell ⟨S, 0, none⟩ v4) := (Young.near hk8 (fun x hx => .inr (List.mem_append_right _ hx))).trans (Young.near hu9 (fun x hx => .inl (by rw [List.mem_singleton.1 hx, H6.out.2]; omega)))
      have hvl := fun x hx => (OwnsC.lt h9.own x hx)
      have hvg : ∀ x, v4.ownBlock = some x → x ∈ (Value.slice B (gsome g d root k).length c).ownBlock.toList ∨ W6.heap.size ≤ x := fun x hx => by
        rcases hvx with e | ⟨y, e, hy⟩
        · exact .inl (by rw [← e, hx]; simp)
        · rw [hx] at e; injection e with e; exact .inr (e ▸ hy)
      have H9 := Lib.hid (And.intro h9 (And.intro hr9 (And.intro hy9 (And.intro hvl hvg))))
      obtain ⟨B4, c4, rfl, -, -, -, -⟩ := OwnsC.reads ho4
      clear ho4 hg4 hv4 hn4 hk8 hvx ho4' hob hb8 hu9 h9 hy9 hvl hvg hoa h6 d2 hlt
      refine ⟨rfl, ?_⟩
      gi_wp2_with (first
        | ((with_reducible show wpListIn _ _ _ _ _ ((⟨some 30, _, _, _, _, _⟩ : Oper) :: _) _ _); refine wpListIn_of (by rfl) ?_; refine wpList_load_blk (o := ⟨some 30, _, _, _, _, _⟩) (hr9) (by rfl) _ _ (by rfl) (by rfl) _ Tryz.underlying113 (by rfl) (size_ref) (by rfl) ?_; refine ⟨rfl, ?_⟩)
        | fail)
      clear d8 f8 d9 hr9
      generalize W8.setCell ⟨S, 0, none⟩ (.slice B4 ((gsome g d root k).length + 1) c4) = W9 at H9 ⊢
      have hof := gof_any H9.out.1.gr r
      rw [H9.out.1.eg.1, show (g.wants (gsome g d root k)).of r = g.of r by unfold Grd.of; rw [Grd.wants_n]] at hof
      refine ⟨trivial, ?_⟩
      refine (calls_round hof).mono ?_
      rintro e W10 ⟨rfl, hbx⟩
      have H10 := Lib.hid (And.intro (H9.out.1.below hbx) (And.intro (H9.out.2.1.below hbx H9.out.2.1.lt) (And.intro (H9.out.2.2.1.trans (Young.below hbx)) (And.intro (fun x hx => OwnsC.lt (H9.out.1.below hbx).own x hx) H9.out.2.2.2.2))))
      have hs6 : W6.heap.size ≤ W10.heap.size := Nat.le_trans H9.out.2.2.1.size hbx.size
      have HS := Lib.hid hs6
      clear hof hbx H9 hs6
      cases hof : g.of r
      case false =>
        gi_wp2_with fail
        have he : g.wants (gsome g d root (k + 1)) = g.wants (gsome g d root k) := by rw [HI6.out.2.2.2.2.2.2, Grd.wants_snoc, if_neg (by rw [hof]; simp)]
        refine ⟨H10.out.2.2.1, _, ⟨Q, _, sp4, by rw [HI6.out.2.2.2.2.2.2] at he ⊢; exact H10.out.1.grid he, rfl⟩, fun x hx => ?_⟩
        rcases List.mem_append.1 hx with hx | hx
        · exact .inl (List.mem_append_left _ hx)
        · rcases H10.out.2.2.2.2 x (Option.mem_toList.1 hx) with h | h
          · exact .inl (List.mem_append_right _ h)
          · exact .inr h
      case true =>
        have hr10 := H10.out.2.1
        have d10 := H10.out.1.b0.at_ 0 (v := .pointer (some ⟨q.gg, 0, none⟩)) rfl
        gi_wp2_with (first
          | ((with_reducible show wpListIn _ _ _ _ _ ((⟨some 33, _, _, _, _, _⟩ : Oper) :: _) _ _); refine wpListIn_of (by rfl) ?_; refine wpList_load_blk (o := ⟨some 33, _, _, _, _, _⟩) (hr10) (by rfl) _ _ (by rfl) (by rfl) _ Tryz.underlying113 (by rfl) (size_ref) (by rfl) ?_; refine ⟨rfl, ?_⟩)
          | fail)
        have hwl := Grd.wants_len (gsome g d root k) g
        have hw := gwant_anyI H10.out.1.gr (by have := HA.out.2.1; have := HA.out.2.2.2; have := HI6.out.2.2.2.2.2.1; omega) r
        rw [H10.out.1.eg.1] at hw
        refine ⟨trivial, ?_⟩
        refine (calls_round hw).mono ?_
        rintro e W11 ⟨rfl, Q', eg, hG, hN, hn⟩
        have he : g.wants (gsome g d root (k + 1)) = (g.wants (gsome g d root k)).want r := by rw [HI6.out.2.2.2.2.2.2, Grd.wants_snoc, if_pos hof]
        have h11 := H10.out.1.wanted he HA.out.2.2.1 eg hG hN hn
        have hy11 := H10.out.2.2.1.trans (Young.near (B := w6.heap.size) (X := Q.gw.toList ++ (Value.slice B (gsome g d root k).length c).ownBlock.toList) hN (fun x hx => by
          rw [H6.out.2]
          exact HI6.out.1.low HA.out.2.2.1 x hx))
        have hgw := gw_grown hG.apart eg hn
        have H11 := Lib.hid (And.intro h11 (And.intro hy11 (And.intro hgw he)))
        clear hw hwl eg hG hN hn he h11 hy11 hgw hr10 d10
        gi_wp2_with fail
        refine ⟨H11.out.2.1, _, ⟨Q', _, sp4, by rw [← HI6.out.2.2.2.2.2.2] at H11; exact H11.out.1, rfl⟩, fun x hx => ?_⟩
        rcases List.mem_append.1 hx with hx | hx
        · rcases H11.out.2.2.1 x (Option.mem_toList.1 hx) with h | h
          · exact .inl (List.mem_append_left _ (Option.mem_toList.2 h))
          · exact .inr (Nat.le_trans HS.out h)
        · rcases H10.out.2.2.2.2 x (Option.mem_toList.1 hx) with h | h
          · exact .inl (List.mem_append_right _ h)
          · exact .inr h
  case done =>
    intro D X W hD hI hK
    obtain ⟨Q, ov, sp, h1, rfl⟩ := hI
    rw [gsome_all] at h1
    have HX := Lib.hid (And.intro h1 hK)
    have d0 := h1.b2.at_ 0 (v := ov) rfl
    obtain ⟨A, c, rfl, hc, hc2, hrd, -⟩ := OwnsC.reads h1.own
    have HR := Lib.hid (And.intro hc (And.intro hc2 hrd))
    clear h1 hK hc hc2 hrd
    go_wp2_with fail
    refine ⟨by simp, .inl ⟨_, _, rfl, run_takeDeferred HX.out.2, ?_⟩⟩
    have k1 := mark_kept (B := S + 3) (by rw [← H6.out.2]; exact hD) HX.out.2
    refine ⟨_, results_tmp2 (by rfl) _ _ _, ?_⟩
    rw [HL.out]
    have h2 := HX.out.1.keptW k1 (Nat.le_refl _) HA.out.2.2.1
    refine ⟨A, c, rfl, Refs.of (HR.out.2.2.keptW k1), HR.out.1, HR.out.2.1, Q, h2.eg.1, h2.eg.2.1, h2.eg.2.2.1, h2.gr, h2.near, fun x hx => (h2.new x hx).imp id (fun h => by have := h2.sz; omega), fun ad e => ?_⟩
    subst e
    have ho := ownOf h2.own
    exact ⟨by have := (OwnsC.lt h2.own _ ho).1; have := h2.sz; omega, h2.off _ ho⟩
end Go.Proofs.YtfoegmjpfkmggaaGreatDoor

/- A grid that a statement made: Reach and Install. Conditions: as each says. -/
namespace Go.Proofs.YtfoegmjpfkmggaaGreatDoor
open Go.RowKit
section
variable {B gp dp : Nat} {Y Y' : List Nat} {w w' w'' : World} {g g2 : Grd} {d d2 : Dsk}
theorem rpost_post {q : GPl} {A : Option Addr} {f : Option Fus} (h : RPost w q A g d f w') : GPost w q g d f w' := by
  obtain ⟨q', k1, k2, k3, k4, k5, k6, k7⟩ := h
  exact ⟨q', k1, k2, k3, k4, k5, k6⟩
/-- Which refs are not there. -/
theorem xreach (h : GX B Y w gp dp g d) (hl : g.W.length ≤ 1000000000) (r : RefT) {c0 : Int} {L : List RefT} (hg : greach g d none r = (c0, L, g2)) :
    Calls Tryz.prog 99 #[.pointer (some ⟨gp, 0, none⟩), .agg #[.int .i64 r.1, .int .i64 r.2.1]] w fun e w' => ∃ A c, e = .returned (.tuple #[.slice A L.length c, .int .i64 c0]) ∧ Refs w' A L ∧ L.length ≤ c ∧ c ≤ 9223372036854775807 ∧
      (∀ ad, A = some ad → w.heap.size ≤ ad.block ∧ (ad.block < w'.heap.size → GX B (ad.block :: Y) w' gp dp g2 d)) ∧ GX B Y w' gp dp g2 d ∧ GStep B Y w w' := by
  obtain ⟨q, h1, h2, h3, h4, h5, h6, h7⟩ := h
  have hr := greach_any h4 hl r
  rw [hg, h1] at hr
  refine hr.mono ?_
  rintro e w' ⟨A, c, rfl, hR, hc, hc2, hP⟩
  have hx := GX.of_post h1 h2 h3 h5 h6 h7 (rpost_post hP)
  refine ⟨A, c, rfl, hR, hc, hc2, fun ad e => ?_, hx⟩
  obtain ⟨q', k1, k2, k3, k4, k5, k6, k7⟩ := hP
  refine ⟨(k7 ad e).1, fun hlt => ⟨q', k1.trans h1, (congrArg Pl.gd k2).trans h2, k3.trans h3, k4, fun x hx => ⟨?_, fun hm => ?_⟩, fun y hy => ?_, Nat.le_trans h7 k5.size⟩⟩
  · rcases k6 x hx with e | e
    · exact (h5 x e).1
    · exact Nat.le_trans h7 e
  · rcases List.mem_cons.1 hm with rfl | hm
    · exact (k7 ad e).2 hx
    · rcases k6 x hx with e | e
      · exact (h5 x e).2 hm
      · have := h6 x hm; omega
  · rcases List.mem_cons.1 hy with rfl | hy
    · exact hlt
    · exact Nat.lt_of_lt_of_le (h6 y hy) k5.size
/-- A block is put where it stood. -/
theorem xinstall (h : GX B Y w gp dp g d) (hl : g.W.length ≤ 1000000000) (r : RefT) (A : Option Addr) (n c : Nat) (raw : List UInt8) (hn : n = raw.length) (hc : n ≤ c) (hc2 : c ≤ 9223372036854775807) (hb : Bytes w A raw) (hA : ∀ ad, A = some ad → ad.block ∈ Y) {c0 : Int} (hg : ginst g d none r raw = (c0, g2, d2, none)) :
    Calls Tryz.prog 56 #[.pointer (some ⟨gp, 0, none⟩), .agg #[.int .i64 r.1, .int .i64 r.2.1], .slice A n c] w fun e w' => e = .returned (.int .i64 c0) ∧ GX B Y w' gp dp g2 d2 ∧ GStep B Y w w' := by
  obtain ⟨q, h1, h2, h3, h4, h5, h6, h7⟩ := h
  have hr := ginstall_any h4 (by omega) r A n c raw hn hc hc2 hb (fun ad e hm => (h5 _ (GPl.mem.2 (.inr (.inr (.inr (.inr hm)))))).2 (hA ad e))
  rw [hg, h1] at hr
  refine hr.mono ?_
  rintro e w' ⟨rfl, hP⟩
  exact ⟨rfl, GX.of_post h1 h2 h3 h5 h6 h7 hP⟩
end
end Go.Proofs.YtfoegmjpfkmggaaGreatDoor

/- []byte(s) of a string that is no constant. Plain facts over any program. No condition. -/
namespace Go
open Go.RowKit
theorem bytesWorld_below (w : World) (e : TypeId) (s : ByteArray) : Below w.heap.size w (Lib.bytesWorld w e s) :=
  ⟨by simp [Lib.bytesWorld, World.freeze, World.alloc, World.drew, -World.alloc_eq, -World.drew_eq], by simp [Lib.bytesWorld, World.freeze, World.alloc, World.drew, -World.alloc_eq, -World.drew_eq], by simp [Lib.bytesWorld, World.freeze, World.alloc, World.drew, -World.alloc_eq, -World.drew_eq], by rw [Lib.bytesWorld_size]; omega, fun k hk => Lib.bytesWorld_at_old w e s k hk⟩
theorem bytesWorld_bytes (w : World) (e : TypeId) (l : List UInt8) : Bytes (Lib.bytesWorld w e (str l)) (some ⟨w.heap.size, 0, none⟩) l := fun _ => ⟨w.heap.size, 0, rfl, fun j v hv => by
  rw [List.getElem?_map] at hv
  have hj : j < l.length := by
    rcases Nat.lt_or_ge j l.length with h | h
    · exact h
    · rw [List.getElem?_eq_none h] at hv; cases hv
  rw [Nat.zero_add, Lib.bytesWorld_cell w e (str l) j (by simpa [str, ByteArray.size] using hj)]
  rw [List.getElem?_eq_getElem hj] at hv
  rw [← hv]
  simp [str, List.getD, List.getElem?_eq_getElem hj, u8v, iu8]⟩
theorem wpList_str_bytes {P : Program} {w : World} {Q : Exit → Act → World → Prop} {ops : Array Oper} {rest : List Oper} {o : Oper} {a : Act} (hgd : o.guard = none) (src dst e : TypeId) (x : Operand) (ho : o.op = .convert src dst x)
    (hs : P.underlying src = some .string) (hd : P.underlying dst = some (.slice e)) (he : P.underlying e = some (.int .u8)) (l : List UInt8) (hx : a.eval x = .string (str l))
    (h : ∀ w' c, Bytes w' (some ⟨w.heap.size, 0, none⟩) l → Below w.heap.size w w' → w'.heap.size = w.heap.size + 1 → wpList P ops Q rest (a.put o.dst (.slice (some ⟨w.heap.size, 0, none⟩) l.length c)) w') : wpList P ops Q (o :: rest) a w := by
  refine wpList_plain hgd fun K hK => ?_
  unfold Oper.wp execOp
  have hr := Lib.run_convert_string_bytes (P := P) w src dst e (str l) hs hd he
  simp only [ho, hx, Sem.run_bind, hr, Result.andThen_ok, Sem.run_pure]
  have hsz : (str l).size = l.length := by simp [str, ByteArray.size]
  rw [hsz]
  exact hK _ _ (h _ _ (bytesWorld_bytes w e l) (bytesWorld_below w e (str l)) (Lib.bytesWorld_size w e (str l)))
end Go

/- The law's small calls: a ref, a grid that is made, a block that is written. Conditions: as each says. -/
namespace Go.Proofs.YtfoegmjpfkmggaaGreatDoor
open Go.RowKit
theorem lref_any (a s : Int) (w : World) : Calls Tryz.prog 53 #[.int .i64 a, .int .i64 s] w fun e w' => e = .returned (.agg #[.int .i64 a, .int .i64 s]) ∧ Below w.heap.size w w' := by
  have hzr := zeroRefrun
  have hB := Lib.hid ((Below.refl w.heap.size w).alloc (Nat.le_refl _) (.cells #[.int .i64 0, .int .i64 0] 113))
  have hbz := Blk.new w 113 #[.int .i64 0, .int .i64 0]
  go_enter Tryz.func53, Tryz.ntmps53
  go_wp2_with (first
    | ((with_reducible show wpList _ _ _ ((⟨none, _, _, _, _, _⟩ : Oper) :: _) _ _); refine wpList_store_blk (o := ⟨none, _, _, _, _, _⟩) (hbz) (by rfl) _ _ _ (by rfl) (by rfl) (#[.int .i64 a, .int .i64 s]) (by rfl) (size_ref) (by rfl) (by rfl) (by simp [Value.oneCell']) ?_; intro w6 h6 hu6)
    | fail)
  refine bodyPost_ret (results_cell_row (by rfl) _ _ w.heap.size _ _ _ _ (by rfl) h6 Tryz.underlying113 (by rfl) size_ref) rfl ?_
  exact ⟨rfl, hB.out.upd hu6 (Nat.le_refl _)⟩
set_option maxRecDepth 100000 in
set_option maxHeartbeats 2000000 in
theorem lmade_any (n : Nat) (h1 : 1 ≤ n) (h2 : n ≤ 512) (w : World) :
    Calls Tryz.prog 18 #[.int .i64 (n : Int)] w fun e w' => ∃ gp dp, e = .returned (.tuple #[.pointer (some ⟨dp, 0, none⟩), .pointer (some ⟨gp, 0, none⟩), .bool true]) ∧ GL w.heap.size w' gp dp ⟨n, List.replicate n 0, []⟩ (Dsk.new (104 + 4 * n)) ∧ Below w.heap.size w w' := by
  have hn := new_all (104 + 4 * n) (by omega) w
  have hw1 : wrap64 (4 * (n : Int)) = 4 * (n : Int) := w64_in (by omega)
  have hw2 : wrap64 (104 + 4 * (n : Int)) = 104 + 4 * (n : Int) := w64_in (by omega)
  rw [show ((104 + 4 * n : Nat) : Int) = 104 + 4 * (n : Int) by omega] at hn
  have H0 := Lib.hid (And.intro h1 h2)
  clear h1 h2
  go_enter Tryz.func18, Tryz.ntmps18
  go_wp2_with fail
  refine hn.mono ?_
  rintro e w2 ⟨p, rfl, hd, hge, hbx⟩
  have hdk : DkOk w2 p none (Dsk.new (104 + 4 * n)) none := ⟨hd, trivial, Dsk.Ok.new (by have := H0.out; omega)⟩
  have H2 := Lib.hid (And.intro hdk (And.intro hge hbx))
  clear hn hd hge hbx hdk hw1 hw2
  go_wp2_with fail
  refine (gnew_any H2.out.1 (by rfl) n H0.out.1 H0.out.2 (Nat.le_refl _)).mono ?_
  rintro e w3 ⟨q, hqp, hqf, rfl, hG, hge, hbx⟩
  have H3 := Lib.hid (And.intro hqp (And.intro hqf (And.intro hG (And.intro hge hbx))))
  clear hqp hqf hG hge hbx
  go_wp2
  go_ret3
  refine ⟨q.gg, p.gd, rfl, ⟨q, rfl, by rw [H3.out.1], H3.out.2.1, H3.out.2.2.1, fun x hx => ?_⟩, H2.out.2.2.trans (H3.out.2.2.2.2.mono H2.out.2.2.size)⟩
  have hs := H2.out.2.2.size
  have k := H3.out.2.2.2.1
  have k2 := H2.out.2.1
  rcases GPl.mem.1 hx with e | e | e | e | e
  · omega
  · omega
  · omega
  · rw [k.2.2.2] at e; cases e
  · rw [H3.out.1, H3.out.2.1] at e
    unfold Pl.all at e
    simp only [List.cons_append, List.nil_append, List.mem_cons, Option.toList_none, List.not_mem_nil, or_false] at e
    omega
end Go.Proofs.YtfoegmjpfkmggaaGreatDoor

/- The law writes a block and asks what is answered. Conditions: the grid was made; the answer is the one asked for. -/
namespace Go.Proofs.YtfoegmjpfkmggaaGreatDoor
open Go.RowKit
set_option maxRecDepth 100000 in
set_option maxHeartbeats 4000000 in
theorem lwrites_any {B gp dp : Nat} {w : World} {g : Grd} {d : Dsk} (h : GL B w gp dp g d) (hs : B ≤ w.heap.size) (hT : Tab w) (k s : Int) (A : Option Addr) (n c : Nat) (l : List RefT) (body : List UInt8) (r : RefT) (e0 : Int)
    (hn : n = l.length) (hl : l.length ≤ 1000) (hbl : body.length ≤ 5000) (hr : Refs w A l) (hres : (gput g d none k l body s).1 = (e0, r)) :
    Calls Tryz.prog 60 #[.pointer (some ⟨gp, 0, none⟩), .int .i64 k, .slice A n c, .string (str body), .int .i64 s, .agg #[.int .i64 r.1, .int .i64 r.2.1], .int .i64 e0] w fun e w' => e = .returned (.bool true) ∧
      GL B w' gp dp (gput g d none k l body s).2.1 (gput g d none k l body s).2.2.1 ∧ Below B w w' := by
  subst hn
  have hzr := zeroRefrun
  have hB := (Below.refl w.heap.size w).alloc (Nat.le_refl _) (.cells #[.int .i64 r.1, .int .i64 r.2.1] 113)
  have hbr := Blk.new w 113 #[.int .i64 r.1, .int .i64 r.2.1]
  obtain ⟨q, rfl, rfl, hf, hG, hq⟩ := h
  have H0 := Lib.hid (And.intro (hG.below hB) (And.intro (hr.below hB) (And.intro (hT.below hB) (And.intro hbr hB))))
  have HA := Lib.hid (And.intro hs (And.intro hl (And.intro hbl hres)))
  have HQ := Lib.hid (And.intro hf (And.intro hq hG.lt))
  clear hG hr hT hbr hB hs hl hbl hres hf hq
  go_enter Tryz.func60, Tryz.ntmps60
  go_wp2_with (first
    | ((with_reducible show wpList _ _ _ ((⟨some 22, _, _, _, _, _⟩ : Oper) :: _) _ _); generalize (w.alloc (.cells #[.int .i64 r.1, .int .i64 r.2.1] 113)) = w1 at H0 ⊢; refine wpList_str_bytes (o := ⟨some 22, _, _, _, _, _⟩) (by rfl) 9 39 5 _ (by rfl) Tryz.underlying9 Tryz.underlying39 Tryz.underlying5 body (by rfl) ?_; intro w2 c2 hb2 hbx hs2)
    | fail)
  have H2 := Lib.hid (And.intro (H0.out.1.below hbx) (And.intro (H0.out.2.1.below hbx) (And.intro (Tab.below H0.out.2.2.1 hbx) (And.intro (H0.out.2.2.2.1.below hbx H0.out.2.2.2.1.lt) (And.intro (H0.out.2.2.2.2.trans (hbx.mono H0.out.2.2.2.2.size)) hb2)))))
  clear hbx hb2 hs2
  refine (gwrite_any H2.out.1 k s A (some ⟨w1.heap.size, 0, none⟩) l.length c body.length c2 l body rfl rfl HA.out.2.1 HA.out.2.2.1 H2.out.2.1 H2.out.2.2.2.2.2 H2.out.2.2.1).mono ?_
  rintro e w3 ⟨rfl, hP⟩
  rw [HA.out.2.2.2]
  have hbr3 : Blk w3 w.heap.size 113 #[.int .i64 r.1, .int .i64 r.2.1] := by
    obtain ⟨q', -, -, -, -, k, -⟩ := hP
    exact H2.out.2.2.2.1.near k (fun hm => by have := HQ.out.2.2 _ hm; omega)
  have hGL := GL.of_post rfl rfl HQ.out.1 HQ.out.2.1 (Nat.le_trans HA.out.1 H2.out.2.2.2.2.1.size) hP
  have H3 := Lib.hid (And.intro hbr3 (And.intro hGL.1 (((H2.out.2.2.2.2.1).mono HA.out.1).trans hGL.2)))
  clear hP hbr3 hGL H2 H0
  go_wp2_with (first
    | ((with_reducible show wpList _ _ _ ((⟨none, _, _, _, _, _⟩ : Oper) :: _) _ _); refine wpList_store_blk (o := ⟨none, _, _, _, _, _⟩) ((Blk.new w3 113 #[.int .i64 0, .int .i64 0])) (by rfl) _ _ _ (by rfl) (by rfl) (#[.int .i64 r.1, .int .i64 r.2.1]) (by rfl) (size_ref) (by rfl) (by rfl) (by simp [Value.oneCell']) ?_; intro w4 h4 hu4; have hbx := ((Below.refl w3.heap.size w3).alloc (Nat.le_refl _) (.cells #[.int .i64 0, .int .i64 0] 113)).upd hu4 (Nat.le_refl _); have hbr4 := H3.out.1.below hbx H3.out.1.lt; have H4 := Lib.hid (And.intro (H3.out.2.1.below hbx) (H3.out.2.2.trans (hbx.mono (Nat.le_trans HA.out.1 (Nat.le_of_lt H3.out.1.lt))))); clear hbx hu4)
    | ((with_reducible show wpList _ _ _ ((⟨some 27, _, _, _, _, _⟩ : Oper) :: _) _ _); refine wpList_load_blk (o := ⟨some 27, _, _, _, _, _⟩) (h4) (by rfl) _ _ (by rfl) (by rfl) _ Tryz.underlying113 (by rfl) (size_ref) (by rfl) ?_)
    | ((with_reducible show wpList _ _ _ ((⟨some 28, _, _, _, _, _⟩ : Oper) :: _) _ _); refine wpList_load_blk (o := ⟨some 28, _, _, _, _, _⟩) (hbr4) (by rfl) _ _ (by rfl) (by rfl) _ Tryz.underlying113 (by rfl) (size_ref) (by rfl) ?_)
    | ((with_reducible show wpList _ _ _ ((⟨some 29, _, _, _, _, _⟩ : Oper) :: _) _ _); refine wpList_run (o := ⟨some 29, _, _, _, _, _⟩) (.bool true) (by rfl) (by rw [exec_eql_ref _ _ _ _ (by rfl) r.1 r.2.1 r.1 r.2.1 (by rfl) (by rfl)]; simp) ?_)
    | fail)
  go_ret
  exact ⟨rfl, H4.out⟩
end Go.Proofs.YtfoegmjpfkmggaaGreatDoor

/- The law asks which refs are not there. Conditions: the grid was made; the answer is known. -/
namespace Go.Proofs.YtfoegmjpfkmggaaGreatDoor
open Go.RowKit
section
variable {B gp dp : Nat} {Y : List Nat} {w : World} {g g2 : Grd} {d : Dsk}
set_option maxRecDepth 100000 in
set_option maxHeartbeats 4000000 in
theorem lreaches_any (h : GX B Y w gp dp g d) (hl : g.W.length ≤ 1000000000) (root : RefT) {L : List RefT} (hL : L.length ≤ 5000) (hg : greach g d none root = (0, L, g2)) (A : Option Addr) (n c : Nat) (want : List RefT) (hn : n = want.length) (hr : Refs w A want) (hA : ∀ ad, A = some ad → ad.block ∈ Y) :
    Calls Tryz.prog 55 #[.pointer (some ⟨gp, 0, none⟩), .agg #[.int .i64 root.1, .int .i64 root.2.1], .slice A n c] w fun e w' => e = .returned (.bool (decide (L = want))) ∧ GX B Y w' gp dp g2 d ∧ GStep B Y w w' := by
  have hB := (Below.refl w.heap.size w).alloc (Nat.le_refl _) (.cells #[.int .i64 root.1, .int .i64 root.2.1] 113)
  have hbr := Blk.new w 113 #[.int .i64 root.1, .int .i64 root.2.1]
  have H1 := Lib.hid (h.below hB)
  have HA := Lib.hid (And.intro hl (And.intro hL (And.intro hg (And.intro hn (And.intro hr hA)))))
  clear h hB hl hL hg hn hr hA
  go_enter Tryz.func55, Tryz.ntmps55
  go_wp2_with (first
    | ((with_reducible show wpList _ _ _ ((⟨some 11, _, _, _, _, _⟩ : Oper) :: _) _ _); refine wpList_load_blk (o := ⟨some 11, _, _, _, _, _⟩) (hbr) (by rfl) _ _ (by rfl) (by rfl) _ Tryz.underlying113 (by rfl) (size_ref) (by rfl) ?_)
    | fail)
  generalize w.alloc (.cells #[.int .i64 root.1, .int .i64 root.2.1] 113) = w1 at H1 hbr ⊢
  clear hbr
  refine (xreach H1.out.1 HA.out.1 root HA.out.2.2.1).mono ?_
  rintro e w2 ⟨A2, c2, rfl, hR, -, -, -, hG, hS⟩
  have H2 := Lib.hid (And.intro hG (And.intro (H1.out.2.trans hS) (And.intro hR ((H1.out.2.trans hS).same.refs HA.out.2.2.2.2.1 HA.out.2.2.2.2.2))))
  clear hG hS hR H1
  go_wp2_with fail
  refine (sameRefs_any A2 A L.length n c2 c L want rfl HA.out.2.2.2.1 HA.out.2.1 w2 H2.out.2.2.1 H2.out.2.2.2).mono ?_
  rintro e w3 ⟨rfl, hbx⟩
  have H3 := Lib.hid (And.intro (H2.out.1.below hbx).1 (H2.out.2.1.trans (H2.out.1.below hbx).2))
  clear hbx H2
  go_wp2
  go_ret
  exact ⟨rfl, H3.out⟩
end
end Go.Proofs.YtfoegmjpfkmggaaGreatDoor

/- The chapter's grid behind its first two calls. Condition: the library's table is there. -/
namespace Go.Proofs.YtfoegmjpfkmggaaGreatDoor
open Go.RowKit
def gb1 : GBT := (1, (1, 7, ()), [], [97], ())
def gb2 : GBT := (2, (2, 7, ()), [(1, 7, ())], [98], ())
def g40 : Grd := ⟨4, List.replicate 4 0, []⟩
def g42 : Grd := ⟨4, [1, 1, 0, 0], []⟩
structure Two (d : Dsk) : Prop where
  rm : Rm d 4
  one : gblk d 1 = GB.bytes gb1
  two : gblk d 2 = GB.bytes gb2
  n120 : d.N = 120
theorem two_run : ∃ d1 d2, gput g40 (Dsk.new 120) none 1 [] [97] 7 = ((0, (1, 7, ())), ⟨4, [1, 0, 0, 0], []⟩, d1, none) ∧ gput ⟨4, [1, 0, 0, 0], []⟩ d1 none 2 [(1, 7, ())] [98] 7 = ((0, (2, 7, ())), g42, d2, none) ∧ Two d2 := by
  have h0 : Rm (Dsk.new 120) 4 := ⟨Dsk.Ok.new (by omega), rfl, by show 104 + 4 * 4 ≤ 120; omega⟩
  have s0 : SetOk (List.replicate 4 0) := setOk_new 4 (by omega)
  have s1 : SetOk [1, 0, 0, 0] := s0.acq
  obtain ⟨d1, e1, r1, n1, b1, o1⟩ := gput_ok (g := g40) (k := 1) (s := 7) (l := []) (m := [97]) h0 rfl s0 (by decide) (by decide)
  obtain ⟨d2, e2, r2, n2, b2, o2⟩ := gput_ok (g := ⟨4, [1, 0, 0, 0], []⟩) (k := 2) (s := 7) (l := [(1, 7, ())]) (m := [98]) r1 rfl s1 (by decide) (by decide)
  exact ⟨d1, d2, e1, e2, r2, (o2 1 (by omega) (by show (1 : Int) ≤ 4; omega) (by decide)).trans b1, b2, n2.trans n1⟩
set_option maxRecDepth 100000 in
set_option maxHeartbeats 2000000 in
theorem ltwo_any (w : World) (hT : Tab w) : Calls Tryz.prog 50 #[] w fun e w' => ∃ gp dp d, e = .returned (.tuple #[.pointer (some ⟨dp, 0, none⟩), .pointer (some ⟨gp, 0, none⟩), .bool true]) ∧ GL w.heap.size w' gp dp g42 d ∧ Two d ∧ Below w.heap.size w w' := by
  obtain ⟨d1, d2, e1, e2, hTwo⟩ := two_run
  have H0 := Lib.hid (And.intro hT (And.intro e1 (And.intro e2 hTwo)))
  clear hT e1 e2 hTwo
  go_enter Tryz.func50, Tryz.ntmps50
  go_wp2_with fail
  refine (lmade_any 4 (by omega) (by omega) w).mono ?_
  rintro e w1 ⟨gp, dp, rfl, hG, hB⟩
  have H1 := Lib.hid (And.intro (show GL w.heap.size w1 gp dp g40 (Dsk.new 120) from hG) hB)
  clear hG hB
  go_wp2_with fail
  refine (lref_any 1 7 w1).mono ?_
  rintro e w2 ⟨rfl, hbx⟩
  have H2 := Lib.hid (And.intro (H1.out.1.below hbx) (H1.out.2.trans (hbx.mono H1.out.2.size)))
  clear hbx H1
  go_wp2_with fail
  refine (lwrites_any H2.out.1 H2.out.2.size (H0.out.1.below H2.out.2) 1 7 none 0 0 [] [97] (1, 7, ()) 0 rfl (by simp) (by simp) (fun h => absurd h (by simp)) (by rw [H0.out.2.1])).mono ?_
  rintro e w3 ⟨rfl, hG, hB⟩
  rw [H0.out.2.1] at hG
  have H3 := Lib.hid (And.intro hG (H2.out.2.trans hB))
  clear hG hB H2
  go_wp2_with fail
  refine (lref_any 1 7 w3).mono ?_
  rintro e w4 ⟨rfl, hbx⟩
  have hb5 := (Below.refl w4.heap.size w4).alloc (Nat.le_refl _) (.cells #[.int .i64 1, .int .i64 7] 113)
  have hr5 : Refs (w4.alloc (.cells #[.int .i64 1, .int .i64 7] 113)) (some ⟨w4.heap.size, 0, none⟩) [(1, 7, ())] := Refs.of (reads_new w4 113 [.int .i64 1, .int .i64 7])
  have H5 := Lib.hid (And.intro ((H3.out.1.below hbx).below hb5) (And.intro ((H3.out.2.trans (hbx.mono H3.out.2.size)).trans (hb5.mono (Nat.le_trans H3.out.2.size hbx.size))) hr5))
  clear hbx H3 hb5 hr5
  go_wp2_with fail
  generalize w4.alloc (.cells #[.int .i64 1, .int .i64 7] 113) = w5 at H5 ⊢
  refine (lref_any 2 7 w5).mono ?_
  rintro e w6 ⟨rfl, hbx⟩
  have H6 := Lib.hid (And.intro (H5.out.1.below hbx) (And.intro (H5.out.2.1.trans (hbx.mono H5.out.2.1.size)) (H5.out.2.2.below hbx)))
  clear hbx H5
  go_wp2_with fail
  refine (lwrites_any H6.out.1 H6.out.2.1.size (H0.out.1.below H6.out.2.1) 2 7 (some ⟨w4.heap.size, 0, none⟩) 1 1 [(1, 7, ())] [98] (2, 7, ()) 0 rfl (by simp) (by simp) H6.out.2.2 (by rw [H0.out.2.2.1])).mono ?_
  rintro e w7 ⟨rfl, hG, hB⟩
  rw [H0.out.2.2.1] at hG
  have H7 := Lib.hid (And.intro hG (H6.out.2.1.trans hB))
  clear hG hB H6
  go_wp2
  go_ret3
  exact ⟨gp, dp, d2, rfl, H7.out.1, H0.out.2.2.2, H7.out.2⟩
end Go.Proofs.YtfoegmjpfkmggaaGreatDoor

/- []byte("..") of a constant, its row laid before. Plain facts over any program. No condition. -/
namespace Go
open Go.RowKit
theorem freeze_upd (w : World) (g k : Nat) : Upd g w (w.freeze ⟨g, k, none⟩ 1) := by
  unfold World.freeze
  rw [if_neg (by decide)]
  exact ⟨rfl, rfl, rfl, by simp, fun j hj => by simp [Array.getElem?_modify, Ne.symm hj]⟩
theorem freeze_cells {w : World} {g : Nat} {t : TypeId} {cs : Array Value} (h : Blk w g t cs) (k : Nat) : (w.freeze ⟨g, k, none⟩ 1).heap[g]? = some (.cells cs t (k, k + 1)) := by
  unfold World.freeze
  rw [if_neg (by decide)]
  unfold Blk at h
  simp [Array.getElem?_modify, h]
theorem wpList_bytes_mark {P : Program} {w : World} {Q : Exit → Act → World → Prop} {ops : Array Oper} {rest : List Oper} {o : Oper} {a : Act} (hgd : o.guard = none) (t e : TypeId) (x : Operand) (ho : o.op = .convert t t x)
    (ht : P.underlying t = some (.slice e)) (he : P.underlying e = some (.int .u8)) (l : List UInt8) (n g : Nat) (hb : Blk w g e (l.map u8v).toArray) (hx : a.eval x = .slice (some ⟨g, 0, none⟩) n n)
    (h : ∀ w', Bytes w' (some ⟨g, 0, none⟩) l → Upd g w w' → wpList P ops Q rest (a.put o.dst (.slice (some ⟨g, 0, none⟩) n n)) w') : wpList P ops Q (o :: rest) a w := by
  refine wpList_plain hgd fun K hK => ?_
  unfold Oper.wp execOp
  have hsh : w.shape? g = some (e, (l.map u8v).toArray.size) := by
    unfold World.shape?
    unfold Blk at hb
    rw [hb]
  have hr : (convert t t (.slice (some ⟨g, 0, none⟩) n n)).run P w = .ok (.slice (some ⟨g, 0, none⟩) n n) (w.freeze ⟨g, (l.map u8v).toArray.size, none⟩ 1) := by
    simp [convert, run_underlying ht, run_underlying he, markStringish, hsh]
  simp only [ho, hx, Sem.run_bind, hr, Result.andThen_ok, Sem.run_pure]
  refine hK _ _ (h _ (fun _ => ⟨g, 0, rfl, fun j v hv => ?_⟩) (freeze_upd w g _))
  rw [Nat.zero_add, cell_of_row _ _ _ _ _ _ (freeze_cells hb _)]
  simpa using hv
end Go

/- The chapter's examples as the statements name them: awake. Condition: the library's table is there. -/
namespace Go.Proofs.YtfoegmjpfkmggaaGreatDoor
open Go.RowKit
def g43 : Grd := ⟨4, [1, 1, 0, 0], [(1, 8, ())]⟩
theorem look_one {d : Dsk} (h : Two d) {W : List RefT} : glook ⟨4, [1, 1, 0, 0], W⟩ d none (1, 7, ()) = (0, some gb1, ⟨4, [1, 1, 0, 0], W⟩) := by
  have ht : gthere d (1, 7, ()) = some gb1 := gthere_some (b := gb1) (by decide) h.one
  unfold glook
  rw [if_neg (by unfold Dsk.isOut; rw [h.rm.out]; simp), if_neg (by show ¬ (Grd.of ⟨4, [], []⟩ (1, 7, ()) = false); decide), ht]
theorem look_other {d : Dsk} (h : Two d) : glook g42 d none (1, 8, ()) = (13, none, g43) := by
  have ht : gthere d (1, 8, ()) = none := gthere_other (b := gb1) (by decide) h.one (by decide)
  unfold glook
  rw [if_neg (by unfold Dsk.isOut; rw [h.rm.out]; simp), if_neg (by decide), ht]
  rfl
set_option maxRecDepth 100000 in
set_option maxHeartbeats 4000000 in
theorem lawake_any (w : World) (hT : Tab w) : Calls Tryz.prog 51 #[] w fun e w' => e = .returned (.bool true) ∧ Below w.heap.size w w' := by
  have hz := zeroGBrun
  have H0 := Lib.hid hT
  clear hT
  go_enter Tryz.func51, Tryz.ntmps51
  go_wp2_with fail
  refine (ltwo_any w H0.out).mono ?_
  rintro e w1 ⟨gp, dp, d, rfl, ⟨q, rfl, rfl, hf, hG, hq⟩, hTwo, hB⟩
  have HTwo := Lib.hid hTwo
  have HQ := Lib.hid (And.intro hf (And.intro hq hG.lt))
  have H1 := Lib.hid (And.intro hG hB)
  clear hG hB hTwo hf hq
  go_wp2_with fail
  refine (lref_any 1 7 w1).mono ?_
  rintro e w2 ⟨rfl, hbx⟩
  have H2 := Lib.hid (And.intro (H1.out.1.below hbx) (And.intro (H1.out.2.trans (hbx.mono H1.out.2.size)) hbx.size))
  clear hbx H1
  go_wp2_with fail
  have hrd := gread_any H2.out.1 (by decide) (1, 7, ())
  rw [show glook g42 d none (1, 7, ()) = (0, some gb1, g42) from look_one HTwo.out] at hrd
  refine hrd.mono ?_
  rintro e w3 ⟨v1, rfl, ⟨v2, hTo⟩, hP⟩
  obtain ⟨A, c, BB, e1, C, rfl, -, hr3, hb3, -, -, -, -, hA, hBB⟩ := hTo
  have hbx := hP.2 rfl
  have H3 := Lib.hid (And.intro (H2.out.1.below hbx) (And.intro (H2.out.2.1.trans (hbx.mono H2.out.2.1.size)) (And.intro hr3 (And.intro hb3 (Nat.le_trans H2.out.2.2 hbx.size)))))
  have HAB := Lib.hid (And.intro (fun ad e => Nat.le_trans H2.out.2.2 (hA ad e)) (fun ad e => Nat.le_trans H2.out.2.2 (hBB ad e)))
  clear hrd hP hbx hr3 hb3 hA hBB H2
  go_wp2_with (first
    | ((with_reducible show wpList _ _ _ ((⟨none, _, _, _, _, _⟩ : Oper) :: _) _ _); refine wpList_store_blk (o := ⟨none, _, _, _, _, _⟩) ((Blk.new w3 116 #[.int .i64 0, .int .i64 0, .int .i64 0, .slice none 0 0, .slice none 0 0])) (by rfl) _ _ _ (by rfl) (by rfl) (gbc gb1 A c BB e1) (by rfl) (sizeGB) (by rfl) (by rfl) (gbc_one _ _ _ _ _) ?_; intro w4 h4 hu4; have hbx := ((Below.refl w3.heap.size w3).alloc (Nat.le_refl _) (.cells #[.int .i64 0, .int .i64 0, .int .i64 0, .slice none 0 0, .slice none 0 0] 116)).upd hu4 (Nat.le_refl _); have H4 := Lib.hid (And.intro h4 (And.intro (H3.out.1.below hbx) (And.intro (H3.out.2.1.trans (hbx.mono H3.out.2.1.size)) (And.intro (H3.out.2.2.1.below hbx) (Bytes.below H3.out.2.2.2.1 hbx))))); clear hu4 hbx h4)
    | fail)
  refine (lref_any 1 8 w4).mono ?_
  rintro e w5 ⟨rfl, hbx⟩
  have H5 := Lib.hid (And.intro (H4.out.1.below hbx H4.out.1.lt) (And.intro (H4.out.2.1.below hbx) (And.intro (H4.out.2.2.1.trans (hbx.mono H4.out.2.2.1.size)) (And.intro (H4.out.2.2.2.1.below hbx) (Bytes.below H4.out.2.2.2.2 hbx)))))
  clear hbx H4
  go_wp2_with fail
  have hrd := gread_any H5.out.2.1 (by decide) (1, 8, ())
  rw [show glook g42 d none (1, 8, ()) = (13, none, g43) from look_other HTwo.out] at hrd
  refine hrd.mono ?_
  rintro e w6 ⟨v1, rfl, ⟨v2, hTo⟩, hP⟩
  obtain ⟨A', c', BB', e1', C', rfl, -, -⟩ := hTo
  obtain ⟨q', hq1, -, -, hG6, hN6, -⟩ := hP.1
  have hoff : ∀ x, w1.heap.size ≤ x → x ∉ q.all := fun x hx hm => by have := HQ.out.2.2 x hm; omega
  have H6 := Lib.hid (And.intro (H5.out.1.near hN6 (hoff _ H3.out.2.2.2.2)) (And.intro hG6 (And.intro (H5.out.2.2.1.trans (hN6.toBelow HQ.out.2.1 H5.out.2.2.1.size)) (And.intro (Refs.near H5.out.2.2.2.1 hN6 (fun ad e => hoff _ (HAB.out.1 ad e))) (Near.bytes H5.out.2.2.2.2 hN6 (fun ad e => hoff _ (HAB.out.2 ad e)))))))
  clear hrd hP hG6 hN6 hoff H5 H3
  go_wp2_with (first
    | ((with_reducible show wpList _ _ _ ((⟨none, _, _, _, _, _⟩ : Oper) :: _) _ _); refine wpList_store_blk (o := ⟨none, _, _, _, _, _⟩) ((Blk.new w6 116 #[.int .i64 0, .int .i64 0, .int .i64 0, .slice none 0 0, .slice none 0 0])) (by rfl) _ _ _ (by rfl) (by rfl) (gbc ((none : Option GBT).getD GB.none_) A' c' BB' e1') (by rfl) (sizeGB) (by rfl) (by rfl) (gbc_one _ _ _ _ _) ?_; intro w7 h7 hu7; have hbx := ((Below.refl w6.heap.size w6).alloc (Nat.le_refl _) (.cells #[.int .i64 0, .int .i64 0, .int .i64 0, .slice none 0 0, .slice none 0 0] 116)).upd hu7 (Nat.le_refl _); have H7 := Lib.hid (And.intro (H6.out.1.below hbx H6.out.1.lt) (And.intro (H6.out.2.1.below hbx) (And.intro (H6.out.2.2.1.trans (hbx.mono H6.out.2.2.1.size)) (And.intro (H6.out.2.2.2.1.below hbx) (Bytes.below H6.out.2.2.2.2 hbx))))); clear hu7 hbx h7)
    | fail)
  clear H6
  have hC0 : Below w7.heap.size w7 w7.drew := (Below.refl _ _).drew
  refine wp_region_tree (Below w7.heap.size w7) [] (PlanT.takes [0, 1, 2] (PlanT.takes [3] (.opt 4 (.opt 5 (.opt 6 (PlanT.takes [7] (.opt 8 (PlanT.takes [9, 10, 11, 12, 13, 14, 15] (.opt 16 (.opt 17 (.opt 18 (.opt 19 (PlanT.takes [20, 21] .done) .no) .no) .no) .no)) .no)) .no) .no) (.opt 5 (.opt 4 (.opt 6 (PlanT.takes [7] (.opt 8 (PlanT.takes [9, 10, 11, 12, 13, 14, 15] (.opt 16 (.opt 17 (.opt 18 (.opt 19 (PlanT.takes [20, 21] .done) .no) .no) .no) .no)) .no)) .no) (.opt 6 (.opt 4 (PlanT.takes [7] (.opt 8 (PlanT.takes [9, 10, 11, 12, 13, 14, 15] (.opt 16 (.opt 17 (.opt 18 (.opt 19 (PlanT.takes [20, 21] .done) .no) .no) .no) .no)) .no)) .no) .no)) .no)))) (by kernel_rfl) (by kernel_rfl) (hC0) ?_
  refine wpTree_pure _ _ _ (by rfl) (by rfl) ?_
  dsimp only [List.filterMap, List.getElem?_cons_zero, List.getElem?_cons_succ]
  repeat (go_big_quiet_step (fail))
  refine wpQuiet_nil ?_
  refine wpTree_takeL _ _ _ (by rfl) (by rfl) (hC0) ?_
  dsimp only [List.filterMap, List.getElem?_cons_zero, List.getElem?_cons_succ]
  (refine wpQuiet_want' (by rfl) ?_; refine wpQuiet_load_blk (fun w' hw' => H7.out.1.below hw' H7.out.1.lt) (by rfl) _ _ (by rfl) (by rfl) _ Tryz.underlying116 (by rfl) (sizeGB) (by rfl) ?_; simp only [Act.put, List.setIfInBounds_toArray, List.set_cons_zero, List.set_cons_succ])
  refine wpQuiet_nil ?_
  refine wpTree_opt _ rfl ?_ (wpTree_opt _ rfl ?_ trivial)
  · go_wp2_with fail
    refine (lref_any 1 7 _).mono ?_
    rintro e x1 ⟨rfl, hbx⟩
    have hC_x1 : Below w7.heap.size w7 x1 := hC0.trans (hbx.mono hC0.size)
    clear hbx
    go_wp2_with fail
    refine TreeQ.in_ hC_x1 ?_
    refine wpTree_one _ rfl ?_
    go_wp2_with fail
    have hbk_x2 := Blk.new x1 5 #[.int .u8 97]
    have hC_x2 := hC_x1.alloc hC_x1.size (.cells #[.int .u8 97] 5)
    have hgC : w7.heap.size ≤ x1.heap.size := hC_x1.size
    generalize x1.alloc (.cells #[.int .u8 97] 5) = x2 at hbk_x2 hC_x2 ⊢
    generalize x1.heap.size = gC at hbk_x2 hgC ⊢
    refine TreeQ.in_ hC_x2 ?_
    refine wpTree_one _ rfl ?_
    go_wp2_with (first
      | ((with_reducible show wpList _ _ _ ((⟨some 33, _, _, _, _, _⟩ : Oper) :: _) _ _); refine wpList_want (by rfl) ?_; refine wpList_bytes_mark (o := ⟨some 33, _, _, _, _, _⟩) (by rfl) 39 5 _ (by rfl) Tryz.underlying39 Tryz.underlying5 [97] 1 gC hbk_x2 (by rfl) ?_; intro x3 hby_x3 hu6)
      | fail)
    have hC_x3 : Below w7.heap.size w7 x3 := hC_x2.upd hu6 hgC
    clear hu6
    refine TreeQ.in_ hC_x3 ?_
    refine wpTree_pure _ _ _ (by rfl) (by rfl) ?_
    dsimp only [List.filterMap, List.getElem?_cons_zero, List.getElem?_cons_succ]
    repeat (go_big_quiet_step (fail))
    refine wpQuiet_nil ?_
    refine wpTree_one _ rfl ?_
    go_wp2_with fail
    refine (sameBlock_any 1 1 1 1 7 7 [] [] [97] [97] A none BB (some ⟨gC, 0, none⟩) c 0 e1 1 x3 ⟨H7.out.2.2.2.1.below (hC_x3), Bytes.below H7.out.2.2.2.2 hC_x3, by simp, by simp⟩ ⟨fun h => absurd h (by simp), hby_x3, by simp, by simp⟩).mono ?_
    rintro e wa ⟨he, hbx⟩
    obtain rfl : e = .returned (.bool true) := by simpa using he
    have hC_wa := hC_x3.trans (hbx.mono hC_x3.size)
    clear hbx he
    go_wp2_with fail
    refine TreeQ.in_ hC_wa ?_
    refine wpTree_pure _ _ _ (by rfl) (by rfl) ?_
    dsimp only [List.filterMap, List.getElem?_cons_zero, List.getElem?_cons_succ]
    repeat (go_big_quiet_step (fail))
    refine wpQuiet_nil ?_
    refine wpTree_one _ rfl ?_
    go_wp2_with fail
    have hwt := gwanted_any (H7.out.2.1.below hC_wa) (by decide)
    rw [hq1] at hwt
    refine hwt.mono ?_
    rintro e wb ⟨A3, c3, rfl, hr3, -, hbx⟩
    have hC_wb := hC_wa.trans (hbx.mono hC_wa.size)
    clear hwt hbx
    go_wp2_with fail
    refine TreeQ.in_ hC_wb ?_
    refine wpTree_one _ rfl ?_
    go_wp2_with fail
    refine (lref_any 1 8 _).mono ?_
    rintro e wc ⟨rfl, hbx⟩
    have hC_wc := hC_wb.trans (hbx.mono hC_wb.size)
    have hr4 := hr3.below hbx
    clear hbx
    go_wp2_with fail
    refine TreeQ.in_ hC_wc ?_
    refine wpTree_one _ rfl ?_
    go_wp2_with fail
    have hb5 := (Below.refl wc.heap.size wc).alloc (Nat.le_refl _) (.cells #[.int .i64 1, .int .i64 8] 113)
    have hr5 : Refs (wc.alloc (.cells #[.int .i64 1, .int .i64 8] 113)) (some ⟨wc.heap.size, 0, none⟩) [(1, 8, ())] := Refs.of (reads_new wc 113 [.int .i64 1, .int .i64 8])
    have hC_wd := hC_wc.trans (hb5.mono hC_wc.size)
    have hr6 := hr4.below hb5
    clear hb5
    generalize wc.alloc (.cells #[.int .i64 1, .int .i64 8] 113) = wd at hr5 hC_wd hr6 ⊢
    refine TreeQ.in_ hC_wd ?_
    refine wpTree_one _ rfl ?_
    go_wp2_with fail
    refine (sameRefs_any A3 (some ⟨wc.heap.size, 0, none⟩) 1 1 c3 1 [(1, 8, ())] [(1, 8, ())] rfl rfl (by simp) wd hr6 hr5).mono ?_
    rintro e we ⟨he, hbx⟩
    obtain rfl : e = .returned (.bool true) := by simpa using he
    have hC_we := hC_wd.trans (hbx.mono hC_wd.size)
    have hB_we := H7.out.2.2.1.trans (hC_we.mono H7.out.2.2.1.size)
    clear hbx he
    go_wp2_with fail
    refine TreeQ.in_ hC_we ?_
    refine wpTree_pure _ _ _ (by rfl) (by rfl) ?_
    dsimp only [List.filterMap, List.getElem?_cons_zero, List.getElem?_cons_succ]
    repeat (go_big_quiet_step (fail))
    refine wpQuiet_nil ?_
    refine wpTree_done ?_
    go_wp2_with fail
    go_ret
    exact ⟨rfl, hB_we⟩
  · go_wp2_with fail
    have hbk_y1 : Blk (w7.alloc (.cells #[.int .u8 97] 5)).drew w7.heap.size 5 #[.int .u8 97] := Blk.new w7 5 #[.int .u8 97]
    have hC_y1 : Below w7.heap.size w7 (w7.alloc (.cells #[.int .u8 97] 5)).drew := ((Below.refl w7.heap.size w7).alloc (Nat.le_refl _) (.cells #[.int .u8 97] 5)).drew
    have hgC : w7.heap.size ≤ w7.heap.size := Nat.le_refl _
    generalize (w7.alloc (.cells #[.int .u8 97] 5)).drew = y1 at hbk_y1 hC_y1 ⊢
    refine TreeQ.in_ hC_y1 ?_
    refine wpTree_opt _ rfl ?_ (wpTree_opt _ rfl ?_ trivial)
    · go_wp2_with fail
      refine (lref_any 1 7 _).mono ?_
      rintro e y2 ⟨rfl, hbx⟩
      have hC_y2 : Below w7.heap.size w7 y2 := hC_y1.trans (hbx.mono hC_y1.size)
      have hbk_y2 := hbk_y1.below hbx hbk_y1.lt
      clear hbx
      go_wp2_with fail
      refine TreeQ.in_ hC_y2 ?_
      refine wpTree_one _ rfl ?_
      go_wp2_with (first
        | ((with_reducible show wpList _ _ _ ((⟨some 33, _, _, _, _, _⟩ : Oper) :: _) _ _); refine wpList_want (by rfl) ?_; refine wpList_bytes_mark (o := ⟨some 33, _, _, _, _, _⟩) (by rfl) 39 5 _ (by rfl) Tryz.underlying39 Tryz.underlying5 [97] 1 w7.heap.size hbk_y2 (by rfl) ?_; intro y3 hby_y3 hu6)
        | fail)
      have hC_y3 : Below w7.heap.size w7 y3 := hC_y2.upd hu6 hgC
      clear hu6
      refine TreeQ.in_ hC_y3 ?_
      refine wpTree_pure _ _ _ (by rfl) (by rfl) ?_
      dsimp only [List.filterMap, List.getElem?_cons_zero, List.getElem?_cons_succ]
      repeat (go_big_quiet_step (fail))
      refine wpQuiet_nil ?_
      refine wpTree_one _ rfl ?_
      go_wp2_with fail
      refine (sameBlock_any 1 1 1 1 7 7 [] [] [97] [97] A none BB (some ⟨w7.heap.size, 0, none⟩) c 0 e1 1 y3 ⟨H7.out.2.2.2.1.below (hC_y3), Bytes.below H7.out.2.2.2.2 hC_y3, by simp, by simp⟩ ⟨fun h => absurd h (by simp), hby_y3, by simp, by simp⟩).mono ?_
      rintro e wa ⟨he, hbx⟩
      obtain rfl : e = .returned (.bool true) := by simpa using he
      have hC_wa := hC_y3.trans (hbx.mono hC_y3.size)
      clear hbx he
      go_wp2_with fail
      refine TreeQ.in_ hC_wa ?_
      refine wpTree_pure _ _ _ (by rfl) (by rfl) ?_
      dsimp only [List.filterMap, List.getElem?_cons_zero, List.getElem?_cons_succ]
      repeat (go_big_quiet_step (fail))
      refine wpQuiet_nil ?_
      refine wpTree_one _ rfl ?_
      go_wp2_with fail
      have hwt := gwanted_any (H7.out.2.1.below hC_wa) (by decide)
      rw [hq1] at hwt
      refine hwt.mono ?_
      rintro e wb ⟨A3, c3, rfl, hr3, -, hbx⟩
      have hC_wb := hC_wa.trans (hbx.mono hC_wa.size)
      clear hwt hbx
      go_wp2_with fail
      refine TreeQ.in_ hC_wb ?_
      refine wpTree_one _ rfl ?_
      go_wp2_with fail
      refine (lref_any 1 8 _).mono ?_
      rintro e wc ⟨rfl, hbx⟩
      have hC_wc := hC_wb.trans (hbx.mono hC_wb.size)
      have hr4 := hr3.below hbx
      clear hbx
      go_wp2_with fail
      refine TreeQ.in_ hC_wc ?_
      refine wpTree_one _ rfl ?_
      go_wp2_with fail
      have hb5 := (Below.refl wc.heap.size wc).alloc (Nat.le_refl _) (.cells #[.int .i64 1, .int .i64 8] 113)
      have hr5 : Refs (wc.alloc (.cells #[.int .i64 1, .int .i64 8] 113)) (some ⟨wc.heap.size, 0, none⟩) [(1, 8, ())] := Refs.of (reads_new wc 113 [.int .i64 1, .int .i64 8])
      have hC_wd := hC_wc.trans (hb5.mono hC_wc.size)
      have hr6 := hr4.below hb5
      clear hb5
      generalize wc.alloc (.cells #[.int .i64 1, .int .i64 8] 113) = wd at hr5 hC_wd hr6 ⊢
      refine TreeQ.in_ hC_wd ?_
      refine wpTree_one _ rfl ?_
      go_wp2_with fail
      refine (sameRefs_any A3 (some ⟨wc.heap.size, 0, none⟩) 1 1 c3 1 [(1, 8, ())] [(1, 8, ())] rfl rfl (by simp) wd hr6 hr5).mono ?_
      rintro e we ⟨he, hbx⟩
      obtain rfl : e = .returned (.bool true) := by simpa using he
      have hC_we := hC_wd.trans (hbx.mono hC_wd.size)
      have hB_we := H7.out.2.2.1.trans (hC_we.mono H7.out.2.2.1.size)
      clear hbx he
      go_wp2_with fail
      refine TreeQ.in_ hC_we ?_
      refine wpTree_pure _ _ _ (by rfl) (by rfl) ?_
      dsimp only [List.filterMap, List.getElem?_cons_zero, List.getElem?_cons_succ]
      repeat (go_big_quiet_step (fail))
      refine wpQuiet_nil ?_
      refine wpTree_done ?_
      go_wp2_with fail
      go_ret
      exact ⟨rfl, hB_we⟩
    · go_wp2_with (first
        | ((with_reducible show wpList _ _ _ ((⟨some 33, _, _, _, _, _⟩ : Oper) :: _) _ _); refine wpList_want (by rfl) ?_; refine wpList_bytes_mark (o := ⟨some 33, _, _, _, _, _⟩) (by rfl) 39 5 _ (by rfl) Tryz.underlying39 Tryz.underlying5 [97] 1 w7.heap.size hbk_y1 (by rfl) ?_; intro z2 hby_z2 hu6)
        | fail)
      have hC_z2 : Below w7.heap.size w7 z2 := hC_y1.upd hu6 hgC
      clear hu6
      refine TreeQ.in_ hC_z2 ?_
      refine wpTree_one _ rfl ?_
      go_wp2_with fail
      refine (lref_any 1 7 _).mono ?_
      rintro e z3 ⟨rfl, hbx⟩
      have hC_z3 : Below w7.heap.size w7 z3 := hC_z2.trans (hbx.mono hC_z2.size)
      have hby_z3 := Bytes.below hby_z2 hbx
      clear hbx
      go_wp2_with fail
      refine TreeQ.in_ hC_z3 ?_
      refine wpTree_pure _ _ _ (by rfl) (by rfl) ?_
      dsimp only [List.filterMap, List.getElem?_cons_zero, List.getElem?_cons_succ]
      repeat (go_big_quiet_step (fail))
      refine wpQuiet_nil ?_
      refine wpTree_one _ rfl ?_
      go_wp2_with fail
      refine (sameBlock_any 1 1 1 1 7 7 [] [] [97] [97] A none BB (some ⟨w7.heap.size, 0, none⟩) c 0 e1 1 z3 ⟨H7.out.2.2.2.1.below (hC_z3), Bytes.below H7.out.2.2.2.2 hC_z3, by simp, by simp⟩ ⟨fun h => absurd h (by simp), hby_z3, by simp, by simp⟩).mono ?_
      rintro e wa ⟨he, hbx⟩
      obtain rfl : e = .returned (.bool true) := by simpa using he
      have hC_wa := hC_z3.trans (hbx.mono hC_z3.size)
      clear hbx he
      go_wp2_with fail
      refine TreeQ.in_ hC_wa ?_
      refine wpTree_pure _ _ _ (by rfl) (by rfl) ?_
      dsimp only [List.filterMap, List.getElem?_cons_zero, List.getElem?_cons_succ]
      repeat (go_big_quiet_step (fail))
      refine wpQuiet_nil ?_
      refine wpTree_one _ rfl ?_
      go_wp2_with fail
      have hwt := gwanted_any (H7.out.2.1.below hC_wa) (by decide)
      rw [hq1] at hwt
      refine hwt.mono ?_
      rintro e wb ⟨A3, c3, rfl, hr3, -, hbx⟩
      have hC_wb := hC_wa.trans (hbx.mono hC_wa.size)
      clear hwt hbx
      go_wp2_with fail
      refine TreeQ.in_ hC_wb ?_
      refine wpTree_one _ rfl ?_
      go_wp2_with fail
      refine (lref_any 1 8 _).mono ?_
      rintro e wc ⟨rfl, hbx⟩
      have hC_wc := hC_wb.trans (hbx.mono hC_wb.size)
      have hr4 := hr3.below hbx
      clear hbx
      go_wp2_with fail
      refine TreeQ.in_ hC_wc ?_
      refine wpTree_one _ rfl ?_
      go_wp2_with fail
      have hb5 := (Below.refl wc.heap.size wc).alloc (Nat.le_refl _) (.cells #[.int .i64 1, .int .i64 8] 113)
      have hr5 : Refs (wc.alloc (.cells #[.int .i64 1, .int .i64 8] 113)) (some ⟨wc.heap.size, 0, none⟩) [(1, 8, ())] := Refs.of (reads_new wc 113 [.int .i64 1, .int .i64 8])
      have hC_wd := hC_wc.trans (hb5.mono hC_wc.size)
      have hr6 := hr4.below hb5
      clear hb5
      generalize wc.alloc (.cells #[.int .i64 1, .int .i64 8] 113) = wd at hr5 hC_wd hr6 ⊢
      refine TreeQ.in_ hC_wd ?_
      refine wpTree_one _ rfl ?_
      go_wp2_with fail
      refine (sameRefs_any A3 (some ⟨wc.heap.size, 0, none⟩) 1 1 c3 1 [(1, 8, ())] [(1, 8, ())] rfl rfl (by simp) wd hr6 hr5).mono ?_
      rintro e we ⟨he, hbx⟩
      obtain rfl : e = .returned (.bool true) := by simpa using he
      have hC_we := hC_wd.trans (hbx.mono hC_wd.size)
      have hB_we := H7.out.2.2.1.trans (hC_we.mono H7.out.2.2.1.size)
      clear hbx he
      go_wp2_with fail
      refine TreeQ.in_ hC_we ?_
      refine wpTree_pure _ _ _ (by rfl) (by rfl) ?_
      dsimp only [List.filterMap, List.getElem?_cons_zero, List.getElem?_cons_succ]
      repeat (go_big_quiet_step (fail))
      refine wpQuiet_nil ?_
      refine wpTree_done ?_
      go_wp2_with fail
      go_ret
      exact ⟨rfl, hB_we⟩
end Go.Proofs.YtfoegmjpfkmggaaGreatDoor
