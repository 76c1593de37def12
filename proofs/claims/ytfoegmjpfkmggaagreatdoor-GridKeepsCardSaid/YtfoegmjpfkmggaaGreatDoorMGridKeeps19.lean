/- The walk from one ref on: reached's inner function. Conditions: the grid is known ahead of each yield; the iterator's blocks came since. -/
import Derived.Test.YtfoegmjpfkmggaaGreatDoorMGridKeeps18
import Derived.Laws.EntriesVeiled
namespace Go.Proofs.YtfoegmjpfkmggaaGreatDoor
open Go.RowKit
attribute [local go_sem] Oper.semAt_some
theorem read_refs (raw : List UInt8) : (GB.read raw).2.2.2.1.length ≤ 16 := by
  unfold GB.read
  split
  · simp [GB.none_]
  split
  · simp [GB.none_]
  split
  · simp [GB.none_]
  split
  · rename_i h; exact (GB.ok_spec h.1).2.2.1
  · simp [GB.none_]
theorem there_refs (d : Dsk) (r : RefT) : ((gthere d r).getD GB.none_).2.2.1.length ≤ 16 := by
  unfold gthere
  split
  · exact read_refs _
  · simp [GB.none_]
/-- What came from B on and lay there lies there, but the map and what the body calls its own. -/
structure Yx (B gm : Nat) (X : List Nat) (W W' : World) : Prop where
  size : W.heap.size ≤ W'.heap.size
  same : ∀ (k : Nat) (o : Obj), B ≤ k → k ≠ gm → k ∉ X → W.heap[k]? = some o → W'.heap[k]? = some o
theorem Yx.trans {B gm : Nat} {X : List Nat} {W W' W'' : World} (h : Yx B gm X W W') (k : Yx B gm X W' W'') : Yx B gm X W W'' := ⟨Nat.le_trans h.size k.size, fun j o h1 h2 h4 h3 => k.same j o h1 h2 h4 (h.same j o h1 h2 h4 h3)⟩
theorem Yx.then_ {B gm : Nat} {X X' : List Nat} {W W' W'' : World} (h : Yx B gm X W W') (g : Grown X X' W) (k : Yx B gm X' W' W'') : Yx B gm X W W'' :=
  ⟨Nat.le_trans h.size k.size, fun j o h1 h2 h4 h3 => k.same j o h1 h2 (g.off h4 (Array.getElem?_eq_some_iff.1 h3).1) (h.same j o h1 h2 h4 h3)⟩
theorem Yx.young {B gm : Nat} {X : List Nat} {W W' : World} (h : Young B X W W') : Yx B gm X W W' := ⟨h.size, fun j o h1 _ h4 h3 => h.same j o h1 h4 h3⟩
theorem Yx.below {B gm : Nat} {X : List Nat} {W W' : World} (h : Below W.heap.size W W') : Yx B gm X W W' := Yx.young (Young.below h)
theorem Yx.map {B gm : Nat} {X : List Nat} {W W' : World} (u : Upd gm W W') : Yx B gm X W W' := ⟨by rw [u.size]; exact Nat.le_refl _, fun j o _ h2 _ h3 => (u.block j h2).trans h3⟩
theorem Yx.new {B gm g : Nat} {X : List Nat} {W W' W'' : World} (h : Yx B gm X W W') (u : Upd g W' W'') (hg : W.heap.size ≤ g) : Yx B gm X W W'' :=
  ⟨by rw [u.size]; exact h.size, fun j o h1 h2 h4 h3 => (u.block j (by have := (Array.getElem?_eq_some_iff.1 h3).1; omega)).trans (h.same j o h1 h2 h4 h3)⟩
theorem RFr.map {q : RPl} {gg : Nat} {S S' : List RefT} {W W' : World} (h : RFr q gg S W) (u : Upd q.gm W W') (hm : MapK W' q.gm (fun _ : RefT => True) encRef (wantM S')) : RFr q gg S' W' := by
  obtain ⟨es, c, h1, -⟩ := h.m
  exact ⟨h.s.upd u (h.s.offMap h1), h.g.upd u (h.g.offMap h1), h.y.upd u (h.y.offMap h1), h.w.upd u (h.w.offMap h1), hm⟩
theorem RFr.off {q : RPl} {gg x : Nat} {S : List RefT} {W W' : World} (h : RFr q gg S W) (u : Upd x W W') (h1 : q.bs < x ∧ q.bg < x ∧ q.by_ < x ∧ q.bw < x ∧ q.gm < x) : RFr q gg S W' :=
  ⟨h.s.upd u (by omega), h.g.upd u (by omega), h.y.upd u (by omega), h.w.upd u (by omega), h.m.near (Near.upd u (List.mem_singleton_self _)) (fun hm => by have := List.mem_singleton.1 hm; omega)⟩
theorem Yx.cell {B gm : Nat} {X : List Nat} {W W' : World} (k : Yx B gm X W W') {p : Addr} {v : Value} (h1 : B ≤ p.block) (h2 : p.block ≠ gm) (h3 : p.block ∉ X) (h : W.cell? p = some v) : W'.cell? p = some v := by
  unfold World.cell? at h ⊢
  split at h
  · rename_i cs t _ e
    rw [k.same _ _ h1 h2 h3 e]; exact h
  · cases h
/-- Where refs lie that the walk looks through. -/
def OffX (B gm : Nat) (X : List Nat) (W : World) (A : Option Addr) (l : List RefT) : Prop := 0 < l.length → ∀ ad, A = some ad → B ≤ ad.block ∧ ad.block ≠ gm ∧ ad.block ∉ X ∧ ad.block < W.heap.size
theorem Yx.refs {B gm : Nat} {X : List Nat} {W W' : World} (k : Yx B gm X W W') {A : Option Addr} {l : List RefT} (h : Refs W A l) (hA : OffX B gm X W A l) : Refs W' A l := fun hp => by
  obtain ⟨b, off, e, hlt, hc⟩ := h hp
  obtain ⟨h1, h2, h3, -⟩ := hA hp _ e
  exact ⟨b, off, e, Nat.lt_of_lt_of_le hlt k.size, fun i hi => ⟨k.cell (p := ⟨b, off + i * 2, none⟩) h1 h2 h3 (hc i hi).1, k.cell (p := ⟨b, off + i * 2 + 1, none⟩) h1 h2 h3 (hc i hi).2⟩⟩
theorem OffX.grown {B gm : Nat} {X X' : List Nat} {W W' : World} {A : Option Addr} {l : List RefT} (h : OffX B gm X W A l) (g : Grown X X' W) (hs : W.heap.size ≤ W'.heap.size) : OffX B gm X' W' A l := fun hp ad e => by
  obtain ⟨h1, h2, h3, h4⟩ := h hp ad e
  exact ⟨h1, h2, g.off h3 h4, Nat.lt_of_lt_of_le h4 hs⟩
/-- Ahead of each of the refs that a block names. -/
def KidRel (B gg : Nat) (q : RPl) (J : Nat → List Nat → World → Prop) (k : Nat) (kids : RefT → List RefT) (n : Nat) (p : List RefT × List RefT) (L : List RefT) (A : Option Addr) (X : List Nat) (W : World) (v : Value) (wr : World) : Prop :=
  ∃ (t : Nat) (X' : List Nat), t ≤ L.length ∧ v = .int .i64 (t : Int) ∧ J (k + (dfss kids n p (L.take t)).1.length) X' wr ∧ RFr q gg (dfss kids n p (L.take t)).2 wr ∧ Yx B q.gm X W wr ∧ Refs wr A L ∧ Grown X X' W ∧ OffX B q.gm X' wr A L
def encR (g : Grd) (d : Dsk) (items : Nat → RefT) (k : Nat) : Array Value := #[.agg #[.int .i64 (items k).1, .int .i64 (items k).2.1], .bool (gok g d (items k))]
/-- What the caller keeps ahead of each yield. -/
def GAt (gg bg : Nat) (g : Grd) (d : Dsk) (W : World) : Prop := Blk W bg 65 #[.pointer (some ⟨gg, 0, none⟩)] ∧ ∃ (Q : GPl) (g' : Grd) (f : Option Fus), GridR W Q g' d f ∧ Q.gg = gg ∧ g'.n = g.n ∧ d.isOut f = false
/-- What the walk leaves. -/
def WkPost (B gg : Nat) (q : RPl) (J : Nat → List Nat → World → Prop) (Jx : World → Prop) (k : Nat) (S : List RefT) (X : List Nat) (W : World) (e : Ending) (W' : World) : Prop :=
  (e = .returned (.bool true) ∧ ∃ X', J k X' W' ∧ RFr q gg S W' ∧ Yx B q.gm X W W' ∧ Grown X X' W) ∨ (e = .returned (.bool false) ∧ Jx W')
set_option maxRecDepth 100000 in
set_option maxHeartbeats 4000000 in
theorem rwalk_in (m : Nat) (hm : 1 ≤ m) (B gg N : Nat) (q : RPl) (g : Grd) (d : Dsk) (items : Nat → RefT) (U : List RefT) (hU : ∀ r ∈ U, ∀ x ∈ gkids g d r, x ∈ U) (J : Nat → List Nat → World → Prop) (Jx : World → Prop)
    (hI : ∀ k X W, J k X W → GAt gg q.bg g d W) (hJX : ∀ k X W, J k X W → ∀ x ∈ X, x < W.heap.size) (hJk : ∀ k X W1 W2, J k X W1 → Kept B W1 W2 → J k X W2)
    (hY : ∀ k X W1, J k X W1 → k < N → YieldAt Fence.wide (m - 1) Tryz.prog q.l (encR g d items k) W1 fun e W' => (e = .returned (.bool true) ∧ ∃ X', J (k + 1) X' W' ∧ Young B X W1 W' ∧ Grown X X' W1) ∨ (e = .returned (.bool false) ∧ Jx W'))
    (hq : B ≤ q.gm ∧ B ≤ q.bs ∧ B ≤ q.by_ ∧ B ≤ q.bw) :
    ∀ (n : Nat) (S : List RefT) (r : RefT) (k : Nat), r ∈ U → unseen U S < n → (∀ i x, (dfs (gkids g d) n S r).1[i]? = some x → items (k + i) = x) → k + (dfs (gkids g d) n S r).1.length ≤ N → ∀ X W, B ≤ W.heap.size → J k X W → RFr q gg S W → (q.gm ∉ X ∧ q.bs ∉ X ∧ q.by_ ∉ X ∧ q.bw ∉ X) →
      CallsIn Fence.wide m Tryz.prog 168 (#[.agg #[.int .i64 r.1, .int .i64 r.2.1]] ++ q.frees) W (WkPost B gg q J Jx (k + (dfs (gkids g d) n S r).1.length) (dfs (gkids g d) n S r).2 X W)
  | 0, S, r, k => fun _ h => absurd h (by omega)
  | n + 1, S, r, k => by
    intro hr hn hit hlen X W hBW hJ hF hqX
    have hbr := Blk.new W 113 #[.int .i64 r.1, .int .i64 r.2.1]
    have hB1 := (Below.refl W.heap.size W).alloc (Nat.le_refl _) (.cells #[.int .i64 r.1, .int .i64 r.2.1] 113)
    have hF1 := hF.below hB1
    have HFL := Lib.hid (And.intro hF.s.lt (And.intro hF.g.lt (And.intro hF.y.lt (And.intro hF.w.lt hF.m.lt))))
    have d1 := hF1.s.at_ 0 (v := .map (some q.gm)) rfl
    have H1 := Lib.hid (And.intro hB1 (And.intro (hJk _ _ _ _ hJ (Kept.below hB1)) hF1))
    have hXl := hJX _ _ _ hJ
    have HX := Lib.hid (And.intro hqX hXl)
    have HA := Lib.hid (And.intro hr (And.intro hn (And.intro hit (And.intro hlen hBW))))
    clear hr hn hit hlen hBW hJ hF hB1 hqX hXl
    unfold RPl.frees
    refine callsIn_of_wp Tryz.func168 rfl trivial ?_ rfl
    simp only [Tryz.ntmps168, List.size_toArray, List.length_cons, List.length_nil, Nat.reduceAdd, Nat.reduceSub, Array.replicate_succ, Array.replicate_zero, List.push_toArray, List.append_toArray, List.nil_append, List.cons_append]
    have hmp := hF1.m
    clear hF1
    by_cases hr : r ∈ S
    · have hd := dfs_old (kids := gkids g d) (n := n) hr
      rw [hd]
      clear hY hd
      gi_wp2_with (first
        | ((with_reducible show wpListIn _ _ _ _ _ ((⟨some 12, _, _, _, _, _⟩ : Oper) :: _) _ _); refine wpListIn_of (by rfl) ?_; refine wpList_load_blk (o := ⟨some 12, _, _, _, _, _⟩) (hbr) (by rfl) _ _ (by rfl) (by rfl) _ Tryz.underlying113 (by rfl) (size_ref) (by rfl) ?_; refine ⟨rfl, ?_⟩)
        | ((with_reducible show wpListIn _ _ _ _ _ ((⟨some 13, _, _, _, _, _⟩ : Oper) :: _) _ _); refine wpListIn_of (by rfl) ?_; refine wpList_lookup_k (o := ⟨some 13, _, _, _, _, _⟩) (by rfl) refKey _ 4 _ _ false (by rfl) Tryz.underlying164 hmp r trivial (.bool false) (refZero _) (by rfl) (by rfl) ?_; rw [if_neg (by decide), wantM_get, decide_eq_true hr]; refine ⟨rfl, ?_⟩)
        | fail)
      go_ret
      exact .inl ⟨rfl, X, H1.out.2.1, H1.out.2.2, Yx.below H1.out.1, Grown.refl _ _⟩
    have hd := dfs_new (kids := gkids g d) (n := n) hr
    rw [hd] at HA ⊢
    have HR := Lib.hid hr
    have hz := zeroGBrun
    clear hd
    gi_wp2_with (first
      | ((with_reducible show wpListIn _ _ _ _ _ ((⟨some 12, _, _, _, _, _⟩ : Oper) :: _) _ _); refine wpListIn_of (by rfl) ?_; refine wpList_load_blk (o := ⟨some 12, _, _, _, _, _⟩) (hbr) (by rfl) _ _ (by rfl) (by rfl) _ Tryz.underlying113 (by rfl) (size_ref) (by rfl) ?_; refine ⟨rfl, ?_⟩)
      | ((with_reducible show wpListIn _ _ _ _ _ ((⟨some 13, _, _, _, _, _⟩ : Oper) :: _) _ _); refine wpListIn_of (by rfl) ?_; refine wpList_lookup_k (o := ⟨some 13, _, _, _, _, _⟩) (by rfl) refKey _ 4 _ _ false (by rfl) Tryz.underlying164 hmp r trivial (.bool false) (refZero _) (by rfl) (by rfl) ?_; rw [if_neg (by decide), wantM_get, decide_eq_false hr]; refine ⟨rfl, ?_⟩)
      | ((with_reducible show wpListIn _ _ _ _ _ ((⟨some 15, _, _, _, _, _⟩ : Oper) :: _) _ _); refine wpListIn_of (by rfl) ?_; refine wpList_load_blk (o := ⟨some 15, _, _, _, _, _⟩) (hbr) (by rfl) _ _ (by rfl) (by rfl) _ Tryz.underlying113 (by rfl) (size_ref) (by rfl) ?_; refine ⟨rfl, ?_⟩)
      | ((with_reducible show wpListIn _ _ _ _ _ ((⟨none, _, _, _, _, _⟩ : Oper) :: _) _ _); refine wpListIn_of (by rfl) ?_; refine wpList_mapUpdate_k (o := ⟨none, _, _, _, _, _⟩) (by rfl) refKey _ 4 _ _ _ (by rfl) Tryz.underlying164 hmp r trivial (.bool true) (by rfl) (by rfl) (by rfl) ?_; intro w2 hm2 hu2; rw [wantM_put S r HR.out] at hm2; have hbel := (Below.refl w2.heap.size w2).alloc (Nat.le_refl _) (.cells #[.int .i64 0, .int .i64 0, .int .i64 0, .slice none 0 0, .slice none 0 0] 116); have hF2 := H1.out.2.2.map hu2 hm2; have hF3 := hF2.below hbel; have d3 := hF3.g.at_ 0 (v := .pointer (some ⟨gg, 0, none⟩)) rfl; have hneq : W.heap.size ≠ q.gm := fun e => hbr.offMap (Classical.choose_spec (Classical.choose_spec H1.out.2.2.m)).1 e; have hbr2 := hbr.upd hu2 hneq; have hbr3 := hbr2.below hbel hbr2.lt; have hJ2 := hJk _ _ _ _ H1.out.2.1 (Kept.map hu2 (Classical.choose_spec (Classical.choose_spec H1.out.2.2.m)).1 hq.1); have hJ3 := hJk _ _ _ _ hJ2 (Kept.below hbel); have hzb := Blk.new w2 116 #[.int .i64 0, .int .i64 0, .int .i64 0, .slice none 0 0, .slice none 0 0]; have H3 := Lib.hid (And.intro hF3 (And.intro hJ3 (And.intro hbr3 (And.intro hzb (And.intro (Nat.le_trans H1.out.1.size (Nat.le_of_eq hu2.size.symm)) (And.intro (((Yx.below H1.out.1 : Yx B q.gm X W _).trans (Yx.map hu2)).trans (Yx.below hbel)) (And.intro ((Kept.map hu2 (Classical.choose_spec (Classical.choose_spec H1.out.2.2.m)).1 hq.1).trans (Kept.below hbel)) (Nat.le_of_eq hu2.size.symm)))))))); clear hzb hF2 hF3 hbr2 hJ2 hJ3 hm2 hu2 hbel hneq; refine ⟨rfl, ?_⟩)
      | ((with_reducible show wpListIn _ _ _ _ _ ((⟨some 17, _, _, _, _, _⟩ : Oper) :: _) _ _); refine wpListIn_of (by rfl) ?_; refine wpList_load_blk (o := ⟨some 17, _, _, _, _, _⟩) (hbr3) (by rfl) _ _ (by rfl) (by rfl) _ Tryz.underlying113 (by rfl) (size_ref) (by rfl) ?_; refine ⟨rfl, ?_⟩)
      | fail)
    generalize (w2.alloc (.cells #[.int .i64 0, .int .i64 0, .int .i64 0, .slice none 0 0, .slice none 0 0] 116)) = w3 at H3 hbr3 d3 ⊢
    generalize w2.heap.size = gB at H3 ⊢
    clear hbr hmp hz d1 hbr3 d3
    obtain ⟨-, Q, g', f, hG, hgg, hn, ho⟩ := hI _ _ _ H3.out.2.1
    have hof := gof_any hG r
    rw [hgg, show g'.of r = g.of r by unfold Grd.of; rw [hn]] at hof
    have HG := Lib.hid (And.intro hG (And.intro hgg (And.intro hn ho)))
    clear hG hgg hn ho
    refine ⟨trivial, ?_⟩
    refine ((callsIn_wide (n := m - 1)).2 hof).mono ?_
    rintro e w4 ⟨rfl, hbx⟩
    have H4 := Lib.hid (And.intro (H3.out.1.below hbx) (And.intro (hJk _ _ _ _ H3.out.2.1 (Kept.below hbx)) (And.intro (H3.out.2.2.1.below hbx H3.out.2.2.1.lt) (And.intro (H3.out.2.2.2.1.below hbx H3.out.2.2.2.1.lt) (And.intro H3.out.2.2.2.2.1 (And.intro (H3.out.2.2.2.2.2.1.trans (Yx.below hbx)) (And.intro (H3.out.2.2.2.2.2.2.1.trans (Kept.below hbx)) H3.out.2.2.2.2.2.2.2)))))))
    clear hof hbx
    by_cases hof : g.of r = true
    case neg =>
      have hof' : g.of r = false := by simpa using hof
      have hk0 : gkids g d r = [] := if_neg hof
      have hok0 : gok g d r = false := by unfold gok; rw [hof']; rfl
      rw [hof']
      rw [hk0] at HA
      have hit0 : items k = r := HA.out.2.2.1 0 r rfl
      have hkN : k < N := by have := HA.out.2.2.2.1; simp only [dfss_nil, List.length_singleton] at this; omega
      obtain ⟨fn, tmps, assign, body, hy, hR⟩ := hY k X w4 H4.out.2.1 hkN
      simp only [encR, hit0, hok0] at hy
      have d5 := H4.out.1.y.at_ 0 (v := .func (.yield q.l) #[] #[]) rfl
      have hbr5 := H4.out.2.2.1
      clear hof hof' hok0 HG
      gi_wp2_with (first
        | ((with_reducible show wpListIn _ _ _ _ _ ((⟨some 27, _, _, _, _, _⟩ : Oper) :: _) _ _); refine wpListIn_of (by rfl) ?_; refine wpList_load_blk (o := ⟨some 27, _, _, _, _, _⟩) (hbr5) (by rfl) _ _ (by rfl) (by rfl) _ Tryz.underlying113 (by rfl) (size_ref) (by rfl) ?_; refine ⟨rfl, ?_⟩)
        | fail)
      refine hR.mono ?_
      clear hR hy hbr5 d5 hit0
      rintro e W5 (⟨rfl, X5, hJ5, hy5, hg5⟩ | ⟨rfl, hJx⟩)
      · have hB := HA.out.2.2.2.2
        have hz5 : Blk W5 gB 116 #[.int .i64 0, .int .i64 0, .int .i64 0, .slice none 0 0, .slice none 0 0] := hy5.same _ _ (Nat.le_trans hB H4.out.2.2.2.2.1) (fun hm => by have := HX.out.2 _ hm; have := H4.out.2.2.2.2.1; omega) H4.out.2.2.2.1
        have hF5 := H4.out.1.young hy5 hq HX.out.1 (hI _ _ _ hJ5).1
        have d6 := hz5.at_ 3 (v := .slice none 0 0) rfl
        have H5 := Lib.hid (And.intro hF5 (And.intro hJ5 (And.intro (H4.out.2.2.2.2.2.1.trans (Yx.young hy5)) (hg5.mono H4.out.2.2.2.2.2.1.size))))
        clear hz5 hF5 hJ5 hy5 hB hg5
        gi_wp2
        gi_loopw [34] (fun v wr => v = .int .i64 0 ∧ wr = W5) (fun _ _ => 0)
        case atStart => exact ⟨rfl, rfl⟩
        case round =>
          obtain ⟨rfl, rfl⟩ := hrel
          gi_wp2
          go_ret
          exact .inl ⟨rfl, X5, by rw [hk0]; exact H5.out.2.1, by rw [hk0]; exact H5.out.1, H5.out.2.2⟩
      · gi_wp2
        go_ret
        exact .inr ⟨rfl, hJx⟩
    have hok0 : gok g d r = (gthere d r).isSome := by unfold gok; rw [hof]; rfl
    have hk0 : gkids g d r = ((gthere d r).getD GB.none_).2.2.1 := by
      unfold gkids; rw [if_pos hof]
      cases gthere d r <;> rfl
    rw [hof]
    rw [hk0] at HA
    have d5 := H4.out.1.g.at_ 0 (v := .pointer (some ⟨gg, 0, none⟩)) rfl
    have hbr5 := H4.out.2.2.1
    have HU := Lib.hid (And.intro hU (And.intro hof (And.intro hok0 hk0)))
    clear hof hok0 hk0 hU HG
    gi_wp2_with (first
      | ((with_reducible show wpListIn _ _ _ _ _ ((⟨some 21, _, _, _, _, _⟩ : Oper) :: _) _ _); refine wpListIn_of (by rfl) ?_; refine wpList_load_blk (o := ⟨some 21, _, _, _, _, _⟩) (hbr5) (by rfl) _ _ (by rfl) (by rfl) _ Tryz.underlying113 (by rfl) (size_ref) (by rfl) ?_; refine ⟨rfl, ?_⟩)
      | fail)
    obtain ⟨-, Q, g', f, hG, hgg, hn, ho⟩ := hI _ _ _ H4.out.2.1
    have hgt := gthere_any hG ho r (by have := HU.out.2.1; unfold Grd.of at this ⊢; rw [hn]; exact this)
    rw [hgg] at hgt
    refine ⟨trivial, ?_⟩
    refine ((callsIn_wide (n := m - 1)).2 hgt).mono ?_
    rintro e w5 ⟨v1, v2, rfl, hTo, hbx⟩
    obtain ⟨A, c, BB, e1, C, rfl, rfl, hr5, -, -, -, -, -, hA, -⟩ := hTo
    have H5 := Lib.hid (And.intro (H4.out.1.below hbx) (And.intro (hJk _ _ _ _ H4.out.2.1 (Kept.below hbx)) (And.intro (H4.out.2.2.1.below hbx H4.out.2.2.1.lt) (And.intro (H4.out.2.2.2.1.below hbx H4.out.2.2.2.1.lt) (And.intro H4.out.2.2.2.2.1 (And.intro (H4.out.2.2.2.2.2.1.trans (Yx.below hbx)) (And.intro (H4.out.2.2.2.2.2.2.1.trans (Kept.below hbx)) (And.intro H4.out.2.2.2.2.2.2.2 (And.intro hr5 (fun ad e => Nat.lt_of_lt_of_le H4.out.2.2.2.1.lt (hA ad e)))))))))))
    have hz5 := H5.out.2.2.2.1
    clear hgt hbx hr5 hA hG hgg hn ho d5 hbr5 H4 H3
    have HSZ := Lib.hid (show B ≤ gB from Nat.le_trans HA.out.2.2.2.2 H5.out.2.2.2.2.1)
    have hit0 : items k = r := by
      obtain ⟨T, hT⟩ := dfss_pre1 (kids := gkids g d) (n := n) ((gthere d r).getD GB.none_).2.2.1 ([r], S ++ [r])
      exact HA.out.2.2.1 0 r (by rw [hT]; rfl)
    have hkN : k < N := by
      obtain ⟨T, hT⟩ := dfss_pre1 (kids := gkids g d) (n := n) ((gthere d r).getD GB.none_).2.2.1 ([r], S ++ [r])
      have := HA.out.2.2.2.1
      rw [hT] at this
      simp only [List.length_append, List.length_singleton] at this
      omega
    have HY := Lib.hid (And.intro hit0 hkN)
    have hY0 := Lib.hid hY
    clear hit0 hkN hY
    have hbk : Blk w5 gB 116 #[.int .i64 0, .int .i64 0, .int .i64 0, .slice none 0 0, .slice none 0 0] := hz5
    have hb16 := there_refs d r
    generalize hoS : (gthere d r).isSome = oS at HU ⊢
    generalize hoB : (gthere d r).getD GB.none_ = b at HA HU H5 hb16 ⊢
    generalize (if oS = true then gblk d r.fst else []).length = nC
    clear hz5 hoS hoB
    have hyy := H5.out.1.y
    have hrr := H5.out.2.2.1
    gi_wp2_with (first
      | ((with_reducible show wpListIn _ _ _ _ _ ((⟨none, _, _, _, _, _⟩ : Oper) :: _) _ _); refine wpListIn_of (by rfl) ?_; refine wpList_store_blk (o := ⟨none, _, _, _, _, _⟩) (hbk) (by rfl) _ _ _ (by rfl) (by rfl) (gbc b A c BB e1) (by rfl) (sizeGB) (by rfl) (by rfl) (gbc_one _ _ _ _ _) ?_; intro w6 h6 hu6; have hF6 : RFr q gg (S ++ [r]) w6 := H5.out.1.off hu6 ⟨Nat.lt_of_lt_of_le HFL.out.1 H5.out.2.2.2.2.1, Nat.lt_of_lt_of_le HFL.out.2.1 H5.out.2.2.2.2.1, Nat.lt_of_lt_of_le HFL.out.2.2.1 H5.out.2.2.2.2.1, Nat.lt_of_lt_of_le HFL.out.2.2.2.1 H5.out.2.2.2.2.1, Nat.lt_of_lt_of_le HFL.out.2.2.2.2 H5.out.2.2.2.2.1⟩; have d6 := hF6.y.at_ 0 (v := .func (.yield q.l) #[] #[]) rfl; have hbr6 : Blk w6 W.heap.size 113 #[.int .i64 r.1, .int .i64 r.2.1] := hrr.near (Near.upd hu6 (List.mem_singleton_self _)) (fun hm => hrr.apart hbk (by decide) (List.mem_singleton.1 hm)); have hJ6 := hJk _ _ _ _ H1.out.2.1 (H5.out.2.2.2.2.2.2.1.new hu6 H5.out.2.2.2.2.2.2.2.1 HSZ.out); have H6 := Lib.hid (And.intro hF6 (And.intro hJ6 (And.intro hbr6 (And.intro h6 (And.intro (H5.out.2.2.2.2.2.1.new hu6 H5.out.2.2.2.2.1) (Refs.near H5.out.2.2.2.2.2.2.2.2.1 (Near.upd hu6 (List.mem_singleton_self _)) (fun ad e hm => by have h1 := H5.out.2.2.2.2.2.2.2.2.2 ad e; have h2 := List.mem_singleton.1 hm; omega))))))); obtain ⟨fn, tmps, assign, body, hy, hR⟩ := hY0.out k X w6 hJ6 HY.out.2; simp only [encR, HY.out.1, HU.out.2.2.1] at hy; clear hF6 hJ6 h6 hu6 hyy hrr hbk; refine ⟨rfl, ?_⟩)
      | ((with_reducible show wpListIn _ _ _ _ _ ((⟨some 27, _, _, _, _, _⟩ : Oper) :: _) _ _); refine wpListIn_of (by rfl) ?_; refine wpList_load_blk (o := ⟨some 27, _, _, _, _, _⟩) (hbr6) (by rfl) _ _ (by rfl) (by rfl) _ Tryz.underlying113 (by rfl) (size_ref) (by rfl) ?_; refine ⟨rfl, ?_⟩)
      | fail)
    refine hR.mono ?_
    clear hR hy hbr6 d6
    rintro e W7 (⟨rfl, X7, hJ7, hy7, hg7⟩ | ⟨rfl, hJx⟩)
    case inr =>
      gi_wp2
      go_ret
      exact .inr ⟨rfl, hJx⟩
    have hB := HA.out.2.2.2.2
    have hz7 : Blk W7 gB 116 (gbc b A c BB e1) := hy7.same _ _ HSZ.out (fun hm => by have := HX.out.2 _ hm; have := H5.out.2.2.2.2.1; omega) H6.out.2.2.2.1
    have hF7 := H6.out.1.young hy7 hq HX.out.1 (hI _ _ _ hJ7).1
    have d7 := hz7.at_ 3 (v := .slice A b.2.2.1.length c) rfl
    have H7 := Lib.hid (And.intro hF7 (And.intro hJ7 (And.intro hz7 (H6.out.2.2.2.2.1.trans (Yx.young hy7)))))
    clear hz7 hF7 hJ7 hB
    have hAB : OffX B q.gm X w6 A b.2.2.1 := fun hp ad e => by
      obtain ⟨b', off', e', hlt', -⟩ := H6.out.2.2.2.2.2 hp
      have h1 := H5.out.2.2.2.2.2.2.2.2.2 ad e
      have h2 := HSZ.out
      have h3 := HFL.out.2.2.2.2
      have h4 := H5.out.2.2.2.2.1
      have h5 : b' = ad.block := by rw [e] at e'; injection e' with e'; rw [e']
      exact ⟨by omega, by omega, fun hm => by have := HX.out.2 _ hm; omega, by omega⟩
    have hrf7 : Refs W7 A b.2.2.1 := (Yx.young (gm := q.gm) hy7).refs H6.out.2.2.2.2.2 hAB
    replace hAB := hAB.grown hg7 hy7.size
    have HG7 := Lib.hid (hg7.mono (W := W) H6.out.2.2.2.2.1.size)
    clear hg7
    have HRF := Lib.hid (And.intro hrf7 hAB)
    clear hrf7 hAB
    gi_wp2
    gi_loopw [34] (fun v wr => KidRel B gg q J k (gkids g d) n ([r], S ++ [r]) b.2.2.1 A X W v wr) (fun v _ => b.2.2.1.length - (intOf v).toNat)
    case atStart => exact ⟨0, X7, Nat.zero_le _, rfl, H7.out.2.1, H7.out.1, H7.out.2.2.2, HRF.out.1, HG7.out, HRF.out.2⟩
    case round =>
      obtain ⟨t, X8, ht, rfl, hJt, hFt, hYt, hRt, hGt, hOt⟩ := hrel
      by_cases hlt : t < b.2.2.1.length
      · obtain ⟨bb, off, rfl, -, hcs⟩ := hRt (by omega)
        obtain ⟨d1, d2⟩ := hcs t hlt
        obtain ⟨x, hx⟩ : ∃ x : RefT, x = b.2.2.1[t] := ⟨_, rfl⟩
        rw [← hx] at d1 d2
        have dw := hFt.w.at_ 0 (v := .func (.func 168) #[] q.frees) rfl
        unfold RPl.frees at dw
        have hbel := (Below.refl wr.heap.size wr).alloc (Nat.le_refl _) (.cells #[.int .i64 x.1, .int .i64 x.2.1] 113)
        have hbx := Blk.new wr 113 #[.int .i64 x.1, .int .i64 x.2.1]
        have dw2 := (hbel.cell (World.block_lt_of_cell? wr _ dw)).trans dw
        have HT := Lib.hid (And.intro hx (And.intro hJt (And.intro hFt (And.intro hYt (And.intro hRt (And.intro hbel (And.intro hGt hOt)))))))
        clear hx hJt hFt hYt hRt hcs hbel dw hGt hOt
        have hS : unseen U (dfss (gkids g d) n ([r], S ++ [r]) (b.2.2.1.take t)).2 < n := by
          obtain ⟨T, hT⟩ := dfss_grows (kids := gkids g d) (n := n) (b.2.2.1.take t) ([r], S ++ [r])
          rw [hT]
          have h1 := unseen_mono (U := U) (S := S ++ [r]) (T := S ++ [r] ++ T) (fun y hy => List.mem_append_left _ hy)
          have h2 := unseen_less HA.out.1 HR.out
          have h3 := HA.out.2.1
          show unseen U (S ++ [r] ++ T) < n
          omega
        have htk := dfss_take (kids := gkids g d) (n := n) (p := ([r], S ++ [r])) hlt
        rw [← HT.out.1] at htk
        obtain ⟨T', hT'⟩ := dfss_front (kids := gkids g d) (n := n) (p := ([r], S ++ [r])) b.2.2.1 (t + 1)
        rw [htk] at hT'
        have hlen' := HA.out.2.2.2.1
        have hit' := HA.out.2.2.1
        rw [hT'] at hlen' hit'
        simp only [List.length_append] at hlen'
        have ih := rwalk_in m hm B gg N q g d items U HU.out.1 J Jx hI hJX hJk hY0.out hq n (dfss (gkids g d) n ([r], S ++ [r]) (b.2.2.1.take t)).2 x (k + (dfss (gkids g d) n ([r], S ++ [r]) (b.2.2.1.take t)).1.length)
          (HU.out.1 r HA.out.1 x (by rw [HU.out.2.2.2, HT.out.1]; exact List.getElem_mem hlt)) hS
          (fun i y hy => by
            rw [Nat.add_assoc]
            refine hit' _ y ?_
            rw [List.append_assoc, List.getElem?_append_right (by omega), Nat.add_sub_cancel_left, List.getElem?_append_left (by rcases Nat.lt_or_ge i (dfs (gkids g d) n (dfss (gkids g d) n ([r], S ++ [r]) (b.2.2.1.take t)).2 x).1.length with h | h; exact h; rw [List.getElem?_eq_none h] at hy; cases hy)]
            exact hy)
          (by omega) X8 (wr.alloc (.cells #[.int .i64 x.1, .int .i64 x.2.1] 113)) (Nat.le_trans HA.out.2.2.2.2 (Nat.le_trans HT.out.2.2.2.1.size HT.out.2.2.2.2.2.1.size)) (hJk _ _ _ _ HT.out.2.1 (Kept.below HT.out.2.2.2.2.2.1)) (HT.out.2.2.1.below HT.out.2.2.2.2.2.1)
          ⟨HT.out.2.2.2.2.2.2.1.off HX.out.1.1 HFL.out.2.2.2.2, HT.out.2.2.2.2.2.2.1.off HX.out.1.2.1 HFL.out.1, HT.out.2.2.2.2.2.2.1.off HX.out.1.2.2.1 HFL.out.2.2.1, HT.out.2.2.2.2.2.2.1.off HX.out.1.2.2.2 HFL.out.2.2.2.1⟩
        have HTK := Lib.hid htk
        clear hS htk hT' hlen' hit'
        unfold RPl.frees at ih
        gi_wp2_with fail
        refine ⟨trivial, ?_⟩
        refine ((callsIn_wide (n := m - 1)).2 ((callsIn_wide (n := m)).1 ih)).mono ?_
        rintro e W9 (⟨rfl, X9, hJ9, hF9, hY9, hG9⟩ | ⟨rfl, hJx⟩)
        · have hYw := (Yx.below (B := B) (gm := q.gm) (X := X8) HT.out.2.2.2.2.2.1).trans hY9
          have hG9' := hG9.mono HT.out.2.2.2.2.2.1.size
          have H9 := Lib.hid (And.intro hJ9 (And.intro hF9 (And.intro (HT.out.2.2.2.1.then_ HT.out.2.2.2.2.2.2.1 hYw) (And.intro (hYw.refs HT.out.2.2.2.2.1 HT.out.2.2.2.2.2.2.2) (And.intro (HT.out.2.2.2.2.2.2.1.trans hG9' HT.out.2.2.2.1.size) (HT.out.2.2.2.2.2.2.2.grown hG9' hYw.size))))))
          clear hJ9 hF9 hY9 hYw ih d1 d2 dw2 hbx hG9 hG9'
          gi_wp2
          go_roundw
          case rel => exact ⟨t + 1, X9, hlt, by go_num, by rw [HTK.out, List.length_append, ← Nat.add_assoc]; exact H9.out.1, by rw [HTK.out]; exact H9.out.2.1, H9.out.2.2⟩
          case measure => simp [intOf]; omega
        · gi_wp2
          go_ret
          exact .inr ⟨rfl, hJx⟩
      · obtain rfl : t = b.2.2.1.length := by omega
        rw [List.take_length] at hJt hFt
        have H8 := Lib.hid (And.intro hJt (And.intro hFt (And.intro hYt hGt)))
        clear hJt hFt hYt hRt hGt hOt
        gi_wp2
        go_ret
        exact .inl ⟨rfl, X8, by rw [HU.out.2.2.2]; exact H8.out.1, by rw [HU.out.2.2.2]; exact H8.out.2.1, H8.out.2.2⟩
end Go.Proofs.YtfoegmjpfkmggaaGreatDoor

/- Which refs are reached from one on, and are not there. Plain facts. No condition. -/
namespace Go.Proofs.YtfoegmjpfkmggaaGreatDoor
open Go.RowKit
/-- All refs that a walk may meet. -/
def gall (g : Grd) (d : Dsk) (root : RefT) : List RefT := root :: (List.range g.n).flatMap fun i : Nat => (GB.read (gblk d ((i : Int) + 1))).2.2.2.1
theorem gall_kids {g : Grd} {d : Dsk} {root r : RefT} : ∀ x ∈ gkids g d r, x ∈ gall g d root := by
  intro x hx
  unfold gkids at hx
  split at hx
  · rename_i ho
    obtain ⟨h1, h2, -⟩ := Grd.of_spec ho
    split at hx
    · rename_i b hb
      unfold gthere at hb
      split at hb
      · injection hb with hb
        subst hb
        refine List.mem_cons_of_mem _ (List.mem_flatMap.2 ⟨(r.1 - 1).toNat, List.mem_range.2 (by omega), ?_⟩)
        rw [show (((r.1 - 1).toNat : Int) + 1) = r.1 by omega]
        exact hx
      · cases hb
    · cases hx
  · cases hx
theorem gall_len (g : Grd) (d : Dsk) (root : RefT) : (gall g d root).length ≤ 1 + 16 * g.n := by
  have key : ∀ L : List Nat, (L.flatMap fun i : Nat => (GB.read (gblk d ((i : Int) + 1))).2.2.2.1).length ≤ 16 * L.length := by
    intro L
    induction L with
    | nil => simp
    | cons i L ih =>
      rw [List.flatMap_cons, List.length_append, List.length_cons]
      have := read_refs (gblk d ((i : Int) + 1))
      omega
  have := key (List.range g.n)
  rw [List.length_range] at this
  unfold gall
  rw [List.length_cons]
  omega
theorem unseen_le (U S : List RefT) : unseen U S ≤ U.length := List.length_filter_le _ _
theorem dfss_count {kids : RefT → List RefT} {U : List RefT} {n : Nat} (ih : ∀ S r, r ∈ U → unseen U (dfs kids n S r).2 + (dfs kids n S r).1.length ≤ unseen U S) :
    ∀ (l : List RefT) (p : List RefT × List RefT), (∀ x ∈ l, x ∈ U) → unseen U (dfss kids n p l).2 + (dfss kids n p l).1.length ≤ unseen U p.2 + p.1.length
  | [], p, _ => Nat.le_refl _
  | k :: l, p, hl => by
    rw [dfss_cons]
    have h1 := dfss_count ih l (p.1 ++ (dfs kids n p.2 k).1, (dfs kids n p.2 k).2) (fun x hx => hl x (List.mem_cons_of_mem _ hx))
    have h2 := ih p.2 k (hl k (List.mem_cons_self ..))
    simp only [List.length_append] at h1
    omega
theorem dfs_count {kids : RefT → List RefT} {U : List RefT} (hU : ∀ r ∈ U, ∀ x ∈ kids r, x ∈ U) : ∀ (n : Nat) (S : List RefT) (r : RefT), r ∈ U → unseen U (dfs kids n S r).2 + (dfs kids n S r).1.length ≤ unseen U S
  | 0, S, r, _ => Nat.le_refl _
  | n + 1, S, r, hr => by
    by_cases h : r ∈ S
    · rw [dfs_old h]; exact Nat.le_refl _
    · rw [dfs_new h]
      have h1 := dfss_count (dfs_count hU n) (kids r) ([r], S ++ [r]) (hU r hr)
      have h2 := unseen_less hr h
      simp only [List.length_singleton] at h1
      omega
/-- The walk from a ref on. -/
def gnum (g : Grd) : Nat := 16 * g.n + 2
def gwalk (g : Grd) (d : Dsk) (root : RefT) : List RefT := (dfs (gkids g d) (gnum g) [] root).1
theorem gwalk_len (g : Grd) (d : Dsk) (root : RefT) : (gwalk g d root).length ≤ 1 + 16 * g.n := by
  have h1 := dfs_count (U := gall g d root) (fun r _ x hx => gall_kids (r := r) x hx) (gnum g) [] root (List.mem_cons_self ..)
  have h2 := unseen_le (gall g d root) []
  have h3 := gall_len g d root
  unfold gwalk
  omega
theorem gnum_enough (g : Grd) (d : Dsk) (root : RefT) : unseen (gall g d root) [] < gnum g := by
  have h1 := unseen_le (gall g d root) []
  have h2 := gall_len g d root
  unfold gnum
  omega
/-- Those that are not there; all that are wanted then. -/
def gmiss (g : Grd) (d : Dsk) (root : RefT) : List RefT := (gwalk g d root).filter fun r => !gok g d r
def Grd.wants (g : Grd) (l : List RefT) : Grd := l.foldl (fun h r => if h.of r = true then h.want r else h) g
theorem Grd.want_n (g : Grd) (r : RefT) : (g.want r).n = g.n := by unfold Grd.want; split <;> rfl
theorem Grd.wants_n (l : List RefT) : ∀ g : Grd, (g.wants l).n = g.n := by
  unfold Grd.wants
  induction l with
  | nil => intro g; rfl
  | cons r l ih =>
    intro g
    rw [List.foldl_cons, ih]
    split
    · exact Grd.want_n g r
    · rfl
theorem Grd.wants_len (l : List RefT) : ∀ g : Grd, (g.wants l).W.length ≤ g.W.length + l.length := by
  unfold Grd.wants
  induction l with
  | nil => intro g; exact Nat.le_refl _
  | cons r l ih =>
    intro g
    rw [List.foldl_cons, List.length_cons]
    refine Nat.le_trans (ih _) ?_
    split
    · unfold Grd.want; split
      · omega
      · simp only [List.length_append, List.length_singleton]; omega
    · omega
theorem Grd.wants_snoc (g : Grd) (l : List RefT) (r : RefT) : g.wants (l ++ [r]) = if g.of r = true then (g.wants l).want r else g.wants l := by
  have h : (g.wants l).of r = g.of r := by unfold Grd.of; rw [Grd.wants_n]
  unfold Grd.wants at h ⊢
  rw [List.foldl_append, List.foldl_cons, List.foldl_nil, h]
/-- What Reach answers: the error's number, what is not there, the grid. -/
def greach (g : Grd) (d : Dsk) (f : Option Fus) (root : RefT) : Int × List RefT × Grd :=
  if d.isOut f = true then (11, [], g) else if g.of root = false then (2, [], g) else (0, gmiss g d root, g.wants (gmiss g d root))
/-- What has been told ahead of round k. -/
def gsome (g : Grd) (d : Dsk) (root : RefT) (k : Nat) : List RefT := ((gwalk g d root).take k).filter fun r => !gok g d r
theorem gsome_succ {g : Grd} {d : Dsk} {root : RefT} {k : Nat} (h : k < (gwalk g d root).length) : gsome g d root (k + 1) = if gok g d (gwalk g d root)[k] = true then gsome g d root k else gsome g d root k ++ [(gwalk g d root)[k]] := by
  unfold gsome
  rw [List.take_succ_eq_append_getElem h, List.filter_append]
  cases hh : gok g d (gwalk g d root)[k] <;> simp [hh]
theorem gsome_all (g : Grd) (d : Dsk) (root : RefT) : gsome g d root (gwalk g d root).length = gmiss g d root := by unfold gsome gmiss; rw [List.take_length]
theorem gsome_len (g : Grd) (d : Dsk) (root : RefT) (k : Nat) : (gsome g d root k).length ≤ 1 + 16 * g.n := by
  refine Nat.le_trans (List.length_filter_le _ _) (Nat.le_trans ?_ (gwalk_len g d root))
  rw [List.length_take]; omega
end Go.Proofs.YtfoegmjpfkmggaaGreatDoor

/- The grid's reached as a row of items. Conditions: the caller keeps the grid and the two boxes. -/
namespace Go.Proofs.YtfoegmjpfkmggaaGreatDoor
open Go.RowKit
attribute [local go_sem] Oper.semAt_some
set_option maxRecDepth 100000 in
set_option maxHeartbeats 4000000 in
theorem reached_row (m : Nat) (hm : 1 ≤ m) (gg b0 b1 : Nat) (g : Grd) (d : Dsk) (root : RefT) (items : Nat → RefT)
    (hit : ∀ i x, (gwalk g d root)[i]? = some x → items i = x) (I : Nat → List Nat → World → Prop) (hI : ∀ k X W, I k X W → GAt gg b0 g d W ∧ Blk W b1 113 #[.int .i64 root.1, .int .i64 root.2.1]) :
    RowOfY Fence.wide m Tryz.prog 167 #[.pointer (some ⟨b0, 0, none⟩), .pointer (some ⟨b1, 0, none⟩)] (encR g d items) I (gwalk g d root).length := by
  intro l J Jx X W hJI hJX hJb hJxb hY hJ0
  refine callsIn_of_wp Tryz.func167 rfl trivial ?_ rfl
  simp only [Tryz.ntmps167, List.size_toArray, List.length_cons, List.length_nil, Nat.reduceAdd, Nat.reduceSub, Array.replicate_succ, Array.replicate_zero, List.push_toArray, List.append_toArray, List.nil_append, List.cons_append]
  obtain ⟨⟨hb0, -⟩, hb1⟩ := hI 0 X W (hJI 0 X W hJ0)
  have H0 := Lib.hid (And.intro hb0 (And.intro hb1 (And.intro hJ0 (hJX _ _ _ hJ0))))
  clear hb0 hb1 hJ0
  gi_wp2_with (first
    | ((with_reducible show wpListIn _ _ _ _ _ ((⟨some 6, _, _, _, _, _⟩ : Oper) :: _) _ _); refine wpListIn_of (by rfl) ?_; refine wpList_make_map (o := ⟨some 6, _, _, _, _, _⟩) _ (by rfl) _ (by rfl) ?_; intro w2 hm2 hb2 hs2; refine stopped ?_)
    | fail)
  refine Stopped.mk ?_
  have hz1 : w2.heap.size = W.heap.size + 1 + 1 := by simpa using hs2
  have hm2' : MapB w2 (W.heap.size + 1) #[] 0 := by simpa using hm2
  have hy2 := (Blk.new W 244 #[.func (.yield l) #[] #[]]).below hb2 (Blk.new W 244 #[.func (.yield l) #[] #[]]).lt
  have hB2 := ((Below.refl W.heap.size W).alloc (Nat.le_refl _) (.cells #[.func (.yield l) #[] #[]] 244)).trans (hb2.mono (by simp))
  have hx4 := ((Below.refl w2.heap.size w2).alloc (Nat.le_refl _) (.cells #[.map (some (W.heap.size + 1))] 164)).alloc (by simp) (.cells #[.func (.func 168) #[] #[.pointer (some ⟨w2.heap.size, 0, none⟩), .pointer (some ⟨b0, 0, none⟩), .pointer (some ⟨W.heap.size, 0, none⟩), .pointer (some ⟨w2.heap.size + 1, 0, none⟩)]] 161)
  have hs4 := (Blk.new w2 164 #[.map (some (W.heap.size + 1))]).alloc (.cells #[.func (.func 168) #[] #[.pointer (some ⟨w2.heap.size, 0, none⟩), .pointer (some ⟨b0, 0, none⟩), .pointer (some ⟨W.heap.size, 0, none⟩), .pointer (some ⟨w2.heap.size + 1, 0, none⟩)]] 161)
  have hw4 := Blk.new' (w2.alloc (.cells #[.map (some (W.heap.size + 1))] 164)) 161 #[.func (.func 168) #[] #[.pointer (some ⟨w2.heap.size, 0, none⟩), .pointer (some ⟨b0, 0, none⟩), .pointer (some ⟨W.heap.size, 0, none⟩), .pointer (some ⟨w2.heap.size + 1, 0, none⟩)]] (n := w2.heap.size + 1) (by simp)
  have hB4 := hB2.trans (hx4.mono hB2.size)
  have hb1X := H0.out.2.1.below hB4 H0.out.2.1.lt
  have HX := Lib.hid (And.intro hm2' (And.intro (hy2.below hx4 hy2.lt) (And.intro hs4 (And.intro hw4 (And.intro hB4 (And.intro hx4 hz1))))))
  clear hm2 hb2 hs2 hz1 hm2' hy2 hB2 hx4 hs4 hw4 hB4
  refine ⟨rfl, ?_⟩
  gi_wp2_with (first
    | ((with_reducible show wpListIn _ _ _ _ _ ((⟨some 9, _, _, _, _, _⟩ : Oper) :: _) _ _); refine wpListIn_of (by rfl) ?_; refine wpList_load_blk (o := ⟨some 9, _, _, _, _, _⟩) (hb1X) (by rfl) _ _ (by rfl) (by rfl) _ Tryz.underlying113 (by rfl) (size_ref) (by rfl) ?_; refine ⟨rfl, ?_⟩)
    | fail)
  generalize (w2.alloc (.cells #[.map (some (W.heap.size + 1))] 164)).alloc (.cells #[.func (.func 168) #[] #[.pointer (some ⟨w2.heap.size, 0, none⟩), .pointer (some ⟨b0, 0, none⟩), .pointer (some ⟨W.heap.size, 0, none⟩), .pointer (some ⟨w2.heap.size + 1, 0, none⟩)]] 161) = w4 at HX hb1X ⊢
  clear hb1X
  have hlt0 : ∀ x ∈ X, x < W.heap.size := H0.out.2.2.2
  have hz1 := HX.out.2.2.2.2.2.2
  have hFr : RFr ⟨W.heap.size + 1, w2.heap.size, b0, W.heap.size, w2.heap.size + 1, l, 244, 161⟩ gg [] w4 :=
    ⟨HX.out.2.2.1, H0.out.1.below HX.out.2.2.2.2.1 H0.out.1.lt, HX.out.2.1, HX.out.2.2.2.1, ⟨#[], 0, HX.out.1.below HX.out.2.2.2.2.2.1 HX.out.1.lt, rfl, by simp, by simp, by simp⟩⟩
  have hk := rwalk_in m hm W.heap.size gg (gwalk g d root).length ⟨W.heap.size + 1, w2.heap.size, b0, W.heap.size, w2.heap.size + 1, l, 244, 161⟩ g d items (gall g d root) (fun r _ x hx => gall_kids (r := r) x hx) J Jx
    (fun k X W h => (hI k X W (hJI _ _ _ h)).1) hJX hJb hY ⟨Nat.le_succ _, by show W.heap.size ≤ w2.heap.size; omega, Nat.le_refl _, by show W.heap.size ≤ w2.heap.size + 1; omega⟩ (gnum g) [] root 0 (List.mem_cons_self ..) (gnum_enough g d root)
    (fun i x hx => by rw [Nat.zero_add]; exact hit i x hx) (by rw [Nat.zero_add]; exact Nat.le_refl _) X w4 HX.out.2.2.2.2.1.size (hJb _ _ _ _ H0.out.2.2.1 (Kept.below HX.out.2.2.2.2.1)) hFr
    ⟨fun hm => by have := hlt0 _ hm; simp only at this; omega, fun hm => by have := hlt0 _ hm; simp only at this; omega, fun hm => by have := hlt0 _ hm; simp only at this; omega, fun hm => by have := hlt0 _ hm; simp only at this; omega⟩
  clear hlt0 hz1 hFr
  unfold RPl.frees at hk
  refine ⟨trivial, ?_⟩
  refine ((callsIn_wide (n := m - 1)).2 ((callsIn_wide (n := m)).1 hk)).mono ?_
  clear hk
  rintro e W9 (⟨rfl, X9, hJ9, -, -, -⟩ | ⟨rfl, hJx⟩)
  · gi_wp2
    go_end0
    exact ⟨⟨_, rfl⟩, .inl ⟨X9, by rw [Nat.zero_add] at hJ9; exact hJ9⟩⟩
  · gi_wp2
    go_end0
    exact ⟨⟨_, rfl⟩, .inr hJx⟩
end Go.Proofs.YtfoegmjpfkmggaaGreatDoor

/- A region that draws its order, with calls, by a plan, in the round of a loop over a function. Plain facts over any program. No condition. -/
namespace Go
def Op.noDeferB : Op → Bool
  | .defer _ => false
  | _ => true
section
variable {P : Program} {ops : Array Oper} {md : Region.Mode} {l n : Nat}
theorem calls_round {f : FuncId} {args : Array Value} {w : World} {R : Ending → World → Prop} (h : Calls P f args w R) : CallsIn (Fence.wide.inRound l) n P f args w R := (callsIn_wide.2 h).inRound l
theorem rows_round {row : String} {args : Array Value} {w : World} {R : Value → World → Prop} (h : Rows P row args w R) : RowsIn (Fence.wide.inRound l) n P row args w R := fun c cs _ => by
  obtain ⟨v, w', r, s⟩ := h c cs
  exact ⟨v, w', r, stepsIn_wide.2 s⟩
/-- An operation of a list, inside a round, is carried out as outside. -/
theorem wpListIn_round {o : Oper} {rest : List Oper} {a : Act} {w : World} {Q : Exit → Act → World → Prop} (hd : o.op.noDeferB = true) (h : wpList P ops (fun e a' w' => e = .normal ∧ wpListIn (Fence.wide.inRound l) n P ops Q rest a' w') [o] a w) : wpListIn (Fence.wide.inRound l) n P ops Q (o :: rest) a w := by
  simp only [wpList] at h
  simp only [wpListIn]
  split
  · rename_i hw
    rw [if_pos hw] at h
    have h1 := h.resolve_right fun hh => by obtain ⟨_, _, hq⟩ := hh.2; cases hq.1
    clear h
    unfold Oper.wp at h1
    refine ⟨fun _ _ => trivial, ?_⟩
    rw [Oper.semAt_eq _ _ _ fun c hc => by rw [hc] at hd; cases hd]
    generalize (execOp a.eval o).run P w = r at h1
    cases r with
    | ok x w' =>
      cases x <;> first | exact h1.2 | exact h1.elim | skip
      case enter f args =>
        refine ⟨fun hh => ?_, ?_⟩
        · simp [Fence.wide, Fence.inRound] at hh
        · refine (calls_round h1).mono fun e w'' he => ?_
          cases e with
          | returned v => exact he.2
          | panicked c => cases he.1
          | outgrown =>
            obtain ⟨_, _, hq⟩ := he
            cases hq.1
      case row row args =>
        refine ⟨fun hh => ?_, ?_⟩
        · simp [Fence.wide, Fence.inRound] at hh
        · exact RowsIn.mono (rows_round h1) fun v w'' he => he.2
    | halt x w' =>
      cases x <;> first | exact absurd h1.1 (by simp) | exact h1.elim
  · rename_i hw
    rw [if_neg hw] at h
    exact ⟨fun _ _ => trivial, h.2⟩
end
end Go

/- A disk keeps where only what is no cells and came later is written. Plain facts. No condition. -/
namespace Go.Proofs.YtfoegmjpfkmggaaGreatDoor
open Go.RowKit
theorem DkOk.keptW {W W' : World} {p : Pl} {gf : Option Nat} {d : Dsk} {f : Option Fus} {B : Nat} (h : DkOk W p gf d f) (k : Kept B W W') (hB : p.gm < B) : DkOk W' p gf d f := by
  refine ⟨?_, ?_, h.ok⟩
  · obtain ⟨es, c, ⟨h1, h2, h3⟩, h4⟩ := h.dr
    exact ⟨es, c, ⟨h1.keptW k, h2.keptW k, h3.keptW k hB⟩, h4⟩
  · cases gf with
    | none => obtain e := h.fr.none_; subst e; exact trivial
    | some g =>
      obtain ⟨x, rfl, hx⟩ := h.fr.has
      exact (show FuseB W' g x.left x.gone from Blk.keptW (hx : Blk W g _ _) k)
end Go.Proofs.YtfoegmjpfkmggaaGreatDoor

/- A grid is kept while a range over a function goes on. No condition. -/
namespace Go.Proofs.YtfoegmjpfkmggaaGreatDoor
open Go.RowKit
theorem OwnsC.keptW {e : TypeId} {size base n B : Nat} {w w' : World} {v : Value} {xs sp : List Value} (h : OwnsC e size w base v n xs sp) (k : Kept B w w') : OwnsC e size w' base v n xs sp := by
  rcases h with h | ⟨g, cap, rfl, hb, hgg, rest⟩
  · exact .inl h
  · exact .inr ⟨g, cap, rfl, hb, hgg.keptW k, rest⟩
theorem GridR.keptW {w w' : World} {q : GPl} {g : Grd} {d : Dsk} {f : Option Fus} {B : Nat} (h : GridR w q g d f) (k : Kept B w w') (h1 : q.p.gm < B) (h2 : q.gi < B) : GridR w' q g d f := by
  obtain ⟨wv, sp, k1, k2, k3⟩ := h.wn
  exact ⟨h.dk.keptW k h1, h.st.keptW k, h.mp.keptW k h2, ⟨wv, sp, k1, k2.keptW k, OwnsC.keptW k3 k⟩, h.ok, h.ne⟩
end Go.Proofs.YtfoegmjpfkmggaaGreatDoor

/- What a call hands back whose first two results lie in blocks; the marks of loops over functions. Plain facts over any program. No condition. -/
namespace Go
open Go.RowKit
/-- A loop's mark is shut: what a contract speaks of lies as it lay. -/
theorem mark_kept {B : Nat} {W : World} {D : Nat} (hB : B ≤ D) (h : W.heap[D]? = some (.deferred (some []))) : Kept B W (W.putObj D (.deferred none)) := Kept.put hB h rfl
end Go
