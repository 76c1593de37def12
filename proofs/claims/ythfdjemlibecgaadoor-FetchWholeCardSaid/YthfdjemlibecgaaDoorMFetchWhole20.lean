/- A block is put that a fetch lacks: Put. Conditions: the fetch and its grid are known; the bytes can be read. -/
import Derived.Test.YthfdjemlibecgaaDoorMFetchWhole19
namespace Go.Proofs.YthfdjemlibecgaaDoor
open Go.RowKit
attribute [local go_sem] Oper.semAt_some
/-- What Put answers: whether all is there, the error's number, the grid, the disk, how many were put. -/
def fput (g : Grd) (d : Dsk) (root : RefT) (h : Nat) (ref : RefT) (raw : List UInt8) : Bool × Int × Grd × Dsk × Nat :=
  if (greach g d none root).1 ≠ 0 then (false, (greach g d none root).1, (greach g d none root).2.2, d, h)
  else if ref ∉ lkItems g.n (greach g d none root).2.1 then (false, 9, (greach g d none root).2.2, d, h)
  else if (ginst (greach g d none root).2.2 d none ref raw).1 ≠ 0 then (false, (ginst (greach g d none root).2.2 d none ref raw).1, (ginst (greach g d none root).2.2 d none ref raw).2.1, (ginst (greach g d none root).2.2 d none ref raw).2.2.1, h)
  else (fdone (greach (ginst (greach g d none root).2.2 d none ref raw).2.1 (ginst (greach g d none root).2.2 d none ref raw).2.2.1 none root).1 (greach (ginst (greach g d none root).2.2 d none ref raw).2.1 (ginst (greach g d none root).2.2 d none ref raw).2.2.1 none root).2.1, 0, (greach (ginst (greach g d none root).2.2 d none ref raw).2.1 (ginst (greach g d none root).2.2 d none ref raw).2.2.1 none root).2.2, (ginst (greach g d none root).2.2 d none ref raw).2.2.1, h + 1)
theorem write_none (d : Dsk) (a : Int) (b : List UInt8) : (d.write none a b).2.2 = none := by
  unfold Dsk.write
  repeat' split
  all_goals rfl
theorem ginst_none (g : Grd) (d : Dsk) (r : RefT) (raw : List UInt8) : (ginst g d none r raw).2.2.2 = none := by
  unfold ginst
  repeat' split
  all_goals first | rfl | exact write_none _ _ _
theorem ginst_W (g : Grd) (d : Dsk) (r : RefT) (raw : List UInt8) : (ginst g d none r raw).2.1.W.length ≤ g.W.length ∧ (ginst g d none r raw).2.1.n = g.n := by
  unfold ginst
  repeat' split
  all_goals first | exact ⟨Nat.le_refl _, rfl⟩ | exact ⟨List.length_erase_le, rfl⟩
theorem greach_W (g : Grd) (d : Dsk) (f : Option Fus) (root : RefT) : (greach g d f root).2.2.W.length ≤ g.W.length + (1 + 16 * g.n) ∧ (greach g d f root).2.1.length ≤ 1 + 16 * g.n := by
  have h1 : (gmiss g d root).length ≤ 1 + 16 * g.n := by rw [← gsome_all]; exact gsome_len g d root _
  unfold greach
  split
  · exact ⟨Nat.le_add_right _ _, Nat.zero_le _⟩
  split
  · exact ⟨Nat.le_add_right _ _, Nat.zero_le _⟩
  · exact ⟨Nat.le_trans (Grd.wants_len _ _) (by omega), h1⟩
/-- What stands when k refs have been looked at. -/
structure PtIn (w3 : World) (fp : Nat) (A : Option Addr) (c n : Nat) (met : Bool) (W : World) : Prop where
  bel : Below w3.heap.size w3 W
  mb : Blk W w3.heap.size 4 #[.bool met]
  fb : Blk W (w3.heap.size + 1) 24 #[.pointer (some ⟨fp, 0, none⟩)]
  lb : Blk W (w3.heap.size + 2) 29 #[.slice A n c]
section
variable {w3 W W' : World} {fp c n : Nat} {A : Option Addr} {met : Bool}
theorem PtIn.keptW {B : Nat} (h : PtIn w3 fp A c n met W) (k : Kept B W W') (hB : w3.heap.size + 3 ≤ B) : PtIn w3 fp A c n met W' :=
  ⟨belowKept h.bel k (by omega) (Nat.le_refl _), h.mb.keptW k, h.fb.keptW k, h.lb.keptW k⟩
theorem PtIn.below (h : PtIn w3 fp A c n met W) (k : Below W.heap.size W W') : PtIn w3 fp A c n met W' :=
  ⟨h.bel.trans (k.mono h.bel.size), h.mb.below k h.mb.lt, h.fb.below k h.fb.lt, h.lb.below k h.lb.lt⟩
theorem PtIn.set (h : PtIn w3 fp A c n met W) (m' : Bool) : PtIn w3 fp A c n m' (W.setCell ⟨w3.heap.size, 0, none⟩ (.bool m')) := by
  have hu : Near [w3.heap.size] W (W.setCell ⟨w3.heap.size, 0, none⟩ (.bool m')) := Near.upd ((Upd.refl _ _).set 0 _) (List.mem_singleton_self _)
  exact ⟨h.bel.trans (hu.toBelow (fun x hx => by rw [List.mem_singleton.1 hx]; exact Nat.le_refl _) h.bel.size), (h.mb.set_ 0 _).sub (by simp), h.fb.near hu (by simp), h.lb.near hu (by simp)⟩
end
section
variable {B fp gp dp h : Nat} {Y : List Nat} {w w' : World} {g : Grd} {d : Dsk} {root : RefT}
/-- Blocks of the statement's own that came since. -/
theorem GX.adds (hx : GX B Y w gp dp g d) (k : Below w.heap.size w w') (ys : List Nat) (hy : ∀ y ∈ ys, w.heap.size ≤ y ∧ y < w'.heap.size) : GX B (ys ++ Y) w' gp dp g d := by
  obtain ⟨q, h1, h2, h3, h4, h5, h6, h7⟩ := hx
  refine ⟨q, h1, h2, h3, h4.below k, fun x hx => ⟨(h5 x hx).1, fun hm => ?_⟩, fun z hz => ?_, Nat.le_trans h7 k.size⟩
  · rcases List.mem_append.1 hm with e | e
    · have := h4.lt x hx; have := hy x e; omega
    · exact (h5 x hx).2 e
  · rcases List.mem_append.1 hz with e | e
    · exact (hy z e).2
    · exact Nat.lt_of_lt_of_le (h6 z e) k.size
/-- Put's own boxes, and the fetch. -/
structure PtB (bf br be fp : Nat) (ref : RefT) (c0 : Int) (gp : Nat) (root : RefT) (h : Nat) (W : World) : Prop where
  f : Blk W bf 24 #[.pointer (some ⟨fp, 0, none⟩)]
  r : Blk W br 23 #[.int .i64 ref.1, .int .i64 ref.2.1]
  e : Blk W be 30 #[.int .i64 c0]
  t : Blk W fp 27 (ftc gp root h)
theorem PtB.same {bf br be : Nat} {ref : RefT} {c0 : Int} (hx : PtB bf br be fp ref c0 gp root h w) (k : Same ([bf, br, be] ++ fp :: Y) w w') : PtB bf br be fp ref c0 gp root h w' := ⟨k.blk hx.f (by simp), k.blk hx.r (by simp), k.blk hx.e (by simp), k.blk hx.t (by simp)⟩
/-- The error's box is written. -/
theorem PtB.set {bf br be : Nat} {ref : RefT} {c0 : Int} (hx : PtB bf br be fp ref c0 gp root h w) (c1 : Int) : PtB bf br be fp ref c1 gp root h (w.setCell ⟨be, 0, none⟩ (.int .i64 c1)) := by
  have hu : Near [be] w (w.setCell ⟨be, 0, none⟩ (.int .i64 c1)) := Near.upd ((Upd.refl _ _).set 0 _) (List.mem_singleton_self _)
  have ne : ∀ x, x ≠ be → x ∉ [be] := fun x hx hm => hx (List.mem_singleton.1 hm)
  exact ⟨hx.f.near hu (ne _ (hx.f.apart hx.e (by decide))), hx.r.near hu (ne _ (hx.r.apart hx.e (by decide))), (hx.e.set_ 0 _).sub (by simp), hx.t.near hu (ne _ (hx.t.apart hx.e (by decide)))⟩
/-- What stands in Put. -/
structure PtS (B : Nat) (Y : List Nat) (w : World) (fp gp dp : Nat) (root : RefT) (h bf br be : Nat) (ref : RefT) (A : Option Addr) (raw : List UInt8) (Z : List Nat) (g : Grd) (d : Dsk) (c0 : Int) (W : World) : Prop where
  gx : GX B (Z ++ fp :: Y) W gp dp g d
  st : GStep B (fp :: Y) w W
  pb : PtB bf br be fp ref c0 gp root h W
  by_ : Bytes W A raw
  zb : bf ∈ Z ∧ br ∈ Z ∧ be ∈ Z
section
variable {bf br be : Nat} {ref : RefT} {A : Option Addr} {raw : List UInt8} {c0 : Int} {W W' : World} {Z : List Nat} {g2 : Grd} {d2 : Dsk}
theorem PtS.set (hx : PtS B Y w fp gp dp root h bf br be ref A raw Z g d c0 W) (c1 : Int) (h1 : be ∉ fp :: Y) (h2 : B ≤ be) (hA : ∀ ad, A = some ad → ad.block ∈ Y) : PtS B Y w fp gp dp root h bf br be ref A raw Z g d c1 (W.setCell ⟨be, 0, none⟩ (.int .i64 c1)) := by
  have hu : Near [be] W (W.setCell ⟨be, 0, none⟩ (.int .i64 c1)) := Near.upd ((Upd.refl _ _).set 0 _) (List.mem_singleton_self _)
  have hS : Same (fp :: Y) W (W.setCell ⟨be, 0, none⟩ (.int .i64 c1)) := Same.near hu (fun y hy => ⟨hx.gx.own y (List.mem_append_right _ hy), fun hm => h1 (List.mem_singleton.1 hm ▸ hy)⟩)
  exact ⟨hx.gx.wrote hu (fun x hm => by rw [List.mem_singleton.1 hm]; exact List.mem_append_left _ hx.zb.2.2), hx.st.trans ⟨hu.toBelow (fun x hm => by rw [List.mem_singleton.1 hm]; exact h2) hx.gx.size, hS⟩, hx.pb.set c1, hS.bytes hx.by_ (fun ad e => List.mem_cons_of_mem _ (hA ad e)), hx.zb⟩
/-- A loop's mark is shut. -/
theorem PtS.mark {D : Nat} (hx : PtS B Y w fp gp dp root h bf br be ref A raw Z g d c0 W) (hK : W.heap[D]? = some (.deferred (some []))) (hD : D ∈ Z) (h1 : D ∉ fp :: Y) (h2 : B ≤ D) (hA : ∀ ad, A = some ad → ad.block ∈ Y) : PtS B Y w fp gp dp root h bf br be ref A raw Z g d c0 (W.putObj D (.deferred none)) := by
  have hu := putObj_near W D (.deferred none)
  have hS : Same (fp :: Y) W (W.putObj D (.deferred none)) := Same.near hu (fun y hy => ⟨hx.gx.own y (List.mem_append_right _ hy), fun hm => h1 (List.mem_singleton.1 hm ▸ hy)⟩)
  have ne : ∀ (x : Nat) (t : TypeId) (cs : Array Value), Blk W x t cs → x ∉ [D] := fun x t cs hb hm => by
    have hb : W.heap[x]? = _ := hb
    rw [List.mem_singleton.1 hm, hK] at hb
    injection hb with hb; cases hb
  exact ⟨hx.gx.wrote hu (fun x hm => by rw [List.mem_singleton.1 hm]; exact List.mem_append_left _ hD), hx.st.trans ⟨hu.toBelow (fun x hm => by rw [List.mem_singleton.1 hm]; exact h2) hx.gx.size, hS⟩,
    ⟨hx.pb.f.near hu (ne _ _ _ hx.pb.f), hx.pb.r.near hu (ne _ _ _ hx.pb.r), hx.pb.e.near hu (ne _ _ _ hx.pb.e), hx.pb.t.near hu (ne _ _ _ hx.pb.t)⟩, hS.bytes hx.by_ (fun ad e => List.mem_cons_of_mem _ (hA ad e)), hx.zb⟩
/-- The grid has been turned by a call. -/
theorem PtS.step (hx : PtS B Y w fp gp dp root h bf br be ref A raw Z g d c0 W) (hG : GX B (Z ++ fp :: Y) W' gp dp g2 d2) (hS : GStep B (Z ++ fp :: Y) W W') (hA : ∀ ad, A = some ad → ad.block ∈ Y) : PtS B Y w fp gp dp root h bf br be ref A raw Z g2 d2 c0 W' := by
  have m : ∀ x ∈ Z, x ∈ Z ++ fp :: Y := fun x hx => List.mem_append_left _ hx
  exact ⟨hG, hx.st.trans (hS.sub (fun _ hy => List.mem_append_right _ hy)), ⟨hS.same.blk hx.pb.f (m _ hx.zb.1), hS.same.blk hx.pb.r (m _ hx.zb.2.1), hS.same.blk hx.pb.e (m _ hx.zb.2.2), hS.same.blk hx.pb.t (List.mem_append_right _ (List.mem_cons_self ..))⟩,
    hS.same.bytes hx.by_ (fun ad e => List.mem_append_right _ (List.mem_cons_of_mem _ (hA ad e))), hx.zb⟩
theorem PtS.below (hx : PtS B Y w fp gp dp root h bf br be ref A raw Z g d c0 W) (k : Below W.heap.size W W') : PtS B Y w fp gp dp root h bf br be ref A raw Z g d c0 W' :=
  ⟨(hx.gx.below k).1, hx.st.trans ((hx.gx.below k).2.sub (fun _ hy => List.mem_append_right _ hy)), ⟨hx.pb.f.below k hx.pb.f.lt, hx.pb.r.below k hx.pb.r.lt, hx.pb.e.below k hx.pb.e.lt, hx.pb.t.below k hx.pb.t.lt⟩, Bytes.below hx.by_ k, hx.zb⟩
/-- A loop's mark that came since is one of Put's own blocks. -/
theorem PtS.more {D : Nat} (hx : PtS B Y w fp gp dp root h bf br be ref A raw Z g d c0 W) (k : Below W.heap.size W W') (h1 : W.heap.size ≤ D) (h2 : D < W'.heap.size) : PtS B Y w fp gp dp root h bf br be ref A raw (D :: Z) g d c0 W' := by
  have hb := hx.below k
  exact ⟨hx.gx.add k h1 h2, hb.st, hb.pb, hb.by_, ⟨List.mem_cons_of_mem _ hb.zb.1, List.mem_cons_of_mem _ hb.zb.2.1, List.mem_cons_of_mem _ hb.zb.2.2⟩⟩
theorem PtS.out (hx : PtS B Y w fp gp dp root h bf br be ref A raw Z g d c0 W) : FX B Y W fp gp dp g d root h ∧ GStep B Y w W :=
  ⟨⟨hx.gx.sub (fun _ hy => List.mem_append_right _ hy), hx.pb.t⟩, hx.st.sub (fun _ hy => List.mem_cons_of_mem _ hy)⟩
theorem PtS.out1 (hx : PtS B Y w fp gp dp root h bf br be ref A raw Z g d c0 W) (h1 : fp ∉ Y) (h2 : B ≤ fp) : FX B Y (W.setCell ⟨fp, 3, none⟩ (.int .i64 ((h : Int) + 1))) fp gp dp g d root (h + 1) ∧ GStep B Y w (W.setCell ⟨fp, 3, none⟩ (.int .i64 ((h : Int) + 1))) := by
  have hu : Near [fp] W (W.setCell ⟨fp, 3, none⟩ (.int .i64 ((h : Int) + 1))) := Near.upd ((Upd.refl _ _).set 3 _) (List.mem_singleton_self _)
  have hS : Same Y W (W.setCell ⟨fp, 3, none⟩ (.int .i64 ((h : Int) + 1))) := Same.near hu (fun y hy => ⟨hx.gx.own y (List.mem_append_right _ (List.mem_cons_of_mem _ hy)), fun hm => h1 (List.mem_singleton.1 hm ▸ hy)⟩)
  refine ⟨⟨(hx.gx.wrote hu (fun x hm => by rw [List.mem_singleton.1 hm]; simp)).sub (fun y hy => List.mem_append_right _ hy), ?_⟩, (hx.st.sub (fun _ hy => List.mem_cons_of_mem _ hy)).trans ⟨hu.toBelow (fun x hm => by rw [List.mem_singleton.1 hm]; exact h2) hx.gx.size, hS⟩⟩
  exact (hx.pb.t.set_ 3 _).sub (by simp [ftc])
end
theorem mem_snoc_dec {l : List RefT} {ref r : RefT} (hm : ref ∉ l) : decide (ref ∈ l ++ [r]) = ((r.1 == ref.1) && (r.2.1 == ref.2.1)) := by
  by_cases e : r = ref
  · subst e; simp
  · have h1 : ¬ ref ∈ l ++ [r] := fun hx => by
      rcases List.mem_append.1 hx with h | h
      · exact hm h
      · exact e (List.mem_singleton.1 h).symm
    rw [decide_eq_false h1]
    obtain ⟨a, s, u⟩ := r
    obtain ⟨a', s', u'⟩ := ref
    by_cases h2 : a = a'
    · by_cases h3 : s = s'
      · exact absurd (by rw [h2, h3]) e
      · simp [h3]
    · simp [h2]
theorem leavesInM_fn {P : Program} {fn : Func} {tmps : Array Value} {R : Ending → World → Prop} {fv : Fn} {cap : Array Value} {ds : List Deferred} {w : World} {f : FuncId} {args : Array Value} {n : Nat}
    (hi : (invoke (.fn fv cap) #[]).run P w = .ok (.enter f args) w) (hx : CallsDIn Fence.wide (n - 1) P f args .returning w fun e u' w' => u' = .returning ∧ e = .returned (.tuple #[]) ∧ LeavesInM Fence.wide n P fn tmps R ds .returning w') :
    LeavesInM Fence.wide n P fn tmps R ({ target := .fn fv cap, args := #[] } :: ds) .returning w :=
  ⟨by simp, .inr ⟨fun h => (by simp [Fence.wide] at h), fv, cap, f, args, rfl, hi, fun _ _ => trivial, hx.mono (fun e u' w' => by rintro ⟨rfl, rfl, h⟩; exact h)⟩⟩
theorem leavesInM_mark {P : Program} {fn : Func} {tmps : Array Value} {R : Ending → World → Prop} {ds : List Deferred} {w : World} {n D : Nat} (hK : w.heap[D]? = some (.deferred (some []))) (hx : LeavesInM Fence.wide n P fn tmps R ds .returning (w.putObj D (.deferred none))) :
    LeavesInM Fence.wide n P fn tmps R ({ target := .collected D, args := #[] } :: ds) .returning w := ⟨by simp, .inl ⟨_, _, rfl, run_takeDeferred hK, hx⟩⟩
theorem put_leave_no {bf br be : Nat} {ref : RefT} {c : Int} (hc : c ≠ 0) (hp : PtB bf br be fp ref c gp root h w) {tmps : Array Value} {v : Bool} (h6 : tmps.getD 6 undef = .bool v) (h7 : tmps.getD 7 undef = .pointer (some ⟨be, 0, none⟩)) {R : Ending → World → Prop} (hR : R (.returned (.tuple #[.bool v, .int .i64 c])) w) :
    LeavesInM Fence.wide 3 Tryd.prog Tryd.f15 tmps R [{ target := .fn (.func 78) #[.pointer (some ⟨be, 0, none⟩), .pointer (some ⟨bf, 0, none⟩)], args := #[] }] .returning w := by
  refine leavesInM_fn (f := 78) (args := #[.pointer (some ⟨be, 0, none⟩), .pointer (some ⟨bf, 0, none⟩)]) ?_ ((put1_no hc hp.e).mono ?_)
  · simp [invoke, go_sem]
  · rintro e u' w' ⟨rfl, rfl, rfl⟩
    refine ⟨rfl, rfl, _, results_tmp_cell rfl _ _ be _ _ h7 (hp.e.at_ 0 rfl) Tryd.underlying30 rfl, ?_⟩
    rw [h6]; exact hR
theorem put_leave_ok {bf br be : Nat} {ref : RefT} (hp : PtB bf br be fp ref 0 gp root h w) (hh : h < 65536) {tmps : Array Value} {v : Bool} (h6 : tmps.getD 6 undef = .bool v) (h7 : tmps.getD 7 undef = .pointer (some ⟨be, 0, none⟩)) {R : Ending → World → Prop} (hR : R (.returned (.tuple #[.bool v, .int .i64 0])) (w.setCell ⟨fp, 3, none⟩ (.int .i64 ((h : Int) + 1)))) :
    LeavesInM Fence.wide 3 Tryd.prog Tryd.f15 tmps R [{ target := .fn (.func 78) #[.pointer (some ⟨be, 0, none⟩), .pointer (some ⟨bf, 0, none⟩)], args := #[] }] .returning w := by
  refine leavesInM_fn (f := 78) (args := #[.pointer (some ⟨be, 0, none⟩), .pointer (some ⟨bf, 0, none⟩)]) ?_ ((put1_ok hp.e hp.f hp.t hh).mono ?_)
  · simp [invoke, go_sem]
  · rintro e u' w' ⟨rfl, rfl, rfl⟩
    refine ⟨rfl, rfl, _, results_tmp_cell rfl _ _ be _ _ h7 ((hp.e.off (hp.e.apart hp.t (by decide)) _).at_ 0 rfl) Tryd.underlying30 rfl, ?_⟩
    rw [h6]; exact hR
set_option maxRecDepth 100000 in
set_option maxHeartbeats 8000000 in
theorem fPut_any (hf : FX B Y w fp gp dp g d root h) (hl : g.W.length ≤ 900000000) (hh : h < 65536) (ref : RefT) (A : Option Addr) (n c : Nat) (raw : List UInt8) (hn : n = raw.length) (hc : n ≤ c) (hc2 : c ≤ 9223372036854775807) (hb : Bytes w A raw) (hA : ∀ ad, A = some ad → ad.block ∈ Y) (hfY : fp ∉ Y) (hfB : B ≤ fp) :
    Calls Tryd.prog 15 #[.pointer (some ⟨fp, 0, none⟩), .agg #[.int .i64 ref.1, .int .i64 ref.2.1], .slice A n c] w fun e w' => e = .returned (.tuple #[.bool (fput g d root h ref raw).1, .int .i64 (fput g d root h ref raw).2.1]) ∧
      FX B Y w' fp gp dp (fput g d root h ref raw).2.2.1 (fput g d root h ref raw).2.2.2.1 root (fput g d root h ref raw).2.2.2.2 ∧ GStep B Y w w' := by
  have hB := (((Below.refl w.heap.size w).alloc (Nat.le_refl _) (.cells #[.pointer (some ⟨fp, 0, none⟩)] 24)).alloc (by simp) (.cells #[.int .i64 ref.1, .int .i64 ref.2.1] 23)).alloc (by simp; omega) (.cells #[.int .i64 0] 30)
  have hbf := ((Blk.new w 24 #[.pointer (some ⟨fp, 0, none⟩)]).alloc (.cells #[.int .i64 ref.1, .int .i64 ref.2.1] 23)).alloc (.cells #[.int .i64 0] 30)
  have hbr := (Blk.new' (w.alloc (.cells #[.pointer (some ⟨fp, 0, none⟩)] 24)) 23 #[.int .i64 ref.1, .int .i64 ref.2.1] (n := w.heap.size + 1) (by simp)).alloc (.cells #[.int .i64 0] 30)
  have hbe := Blk.new' ((w.alloc (.cells #[.pointer (some ⟨fp, 0, none⟩)] 24)).alloc (.cells #[.int .i64 ref.1, .int .i64 ref.2.1] 23)) 30 #[.int .i64 0] (n := w.heap.size + 2) (by simp)
  have hsz : (((w.alloc (.cells #[.pointer (some ⟨fp, 0, none⟩)] 24)).alloc (.cells #[.int .i64 ref.1, .int .i64 ref.2.1] 23)).alloc (.cells #[.int .i64 0] 30)).heap.size = w.heap.size + 3 := by simp
  have hG1 := hf.gx.adds hB [w.heap.size, w.heap.size + 1, w.heap.size + 2] (fun y hy => by rw [hsz]; simp at hy; omega)
  have hS1 := (hf.gx.below hB).2
  have hP1 : PtB w.heap.size (w.heap.size + 1) (w.heap.size + 2) fp ref 0 gp root h _ := ⟨hbf, hbr, hbe, hS1.same.blk hf.blk (List.mem_cons_self ..)⟩
  have H1 := Lib.hid (And.intro hG1 (And.intro hS1 (And.intro hP1 (hS1.same.bytes hb (fun ad e => List.mem_cons_of_mem _ (hA ad e))))))
  have HA := Lib.hid (And.intro hl (And.intro hh (And.intro hn (And.intro hc (And.intro hc2 hA)))))
  have HE := Lib.hid (show w.heap.size + 2 ∉ fp :: Y ∧ B ≤ w.heap.size + 2 ∧ w.heap.size + 2 < _ ∧ fp ∉ Y ∧ B ≤ fp from ⟨fun hm => by have := hf.gx.own _ hm; omega, by have := hf.gx.size; omega, hbe.lt, hfY, hfB⟩)
  clear hfY hfB hG1 hS1 hP1 hsz hB hbf hbr hbe hf hl hh hn hc hc2 hb hA
  refine callsIn_wide (n := 3).1 ?_
  refine callsIn_of_wp_marks Tryd.func15 rfl trivial ?_ rfl
  simp only [Tryd.ntmps15, List.size_toArray, List.length_cons, List.length_nil, Nat.reduceAdd, Nat.reduceSub, Array.replicate_succ, Array.replicate_zero, List.push_toArray, List.append_toArray, List.nil_append, List.cons_append]
  refine wpIn_wide.2 ?_
  go_wp2_with fail
  generalize (((w.alloc (.cells #[.pointer (some ⟨fp, 0, none⟩)] 24)).alloc (.cells #[.int .i64 ref.1, .int .i64 ref.2.1] 23)).alloc (.cells #[.int .i64 0] 30)) = w1 at H1 HE ⊢
  simp only [show w.heap.size + 1 + 1 = w.heap.size + 2 from rfl]
  generalize w.heap.size + 1 = br at H1 ⊢
  generalize w.heap.size + 2 = be at H1 HE ⊢
  generalize w.heap.size = bf at H1 ⊢
  refine (fnone_any H1.out.2.2.1.t).mono ?_
  rintro e w1' ⟨rfl, hw⟩
  obtain rfl := hw.symm
  clear hw
  go_wp2_with fail
  generalize hY1 : [bf, br, be] ++ fp :: Y = Y1 at H1
  have mf : fp ∈ Y1 := by rw [← hY1]; simp
  have mb : bf ∈ Y1 := by rw [← hY1]; simp
  have hC0 : Same Y1 w1 w1.drew := ⟨Nat.le_refl _, fun _ _ => rfl⟩
  have HY := Lib.hid hY1
  clear hY1
  refine wp_region_tree (Same Y1 w1) [13] (PlanT.takes [0, 4] (PlanT.takes [1, 2, 5, 6] (PlanT.takes [3, 7] (.opt 8 (PlanT.takes [9, 10, 11, 12] (.opt 13 .done .no)) .no)))) (by kernel_rfl) (by kernel_rfl) (hC0) ?_
  refine wpTree_takeL _ _ _ (by rfl) (by rfl) (hC0) ?_
  dsimp only [List.filterMap, List.getElem?_cons_zero, List.getElem?_cons_succ]
  (refine wpQuiet_load_cell (fun w' hw' => (hw'.blk H1.out.2.2.1.f mb).at_ 0 (v := .pointer (some ⟨fp, 0, none⟩)) rfl) (by rfl) _ _ (by rfl) (by rfl) _ Tryd.underlying24 (by rfl) ?_; simp only [Act.put, List.setIfInBounds_toArray, List.set_cons_zero, List.set_cons_succ])
  (refine wpQuiet_load_cell (fun w' hw' => (hw'.blk H1.out.2.2.1.f mb).at_ 0 (v := .pointer (some ⟨fp, 0, none⟩)) rfl) (by rfl) _ _ (by rfl) (by rfl) _ Tryd.underlying24 (by rfl) ?_; simp only [Act.put, List.setIfInBounds_toArray, List.set_cons_zero, List.set_cons_succ])
  refine wpQuiet_nil ?_
  refine wpTree_pure _ _ _ (by rfl) (by rfl) ?_
  dsimp only [List.filterMap, List.getElem?_cons_zero, List.getElem?_cons_succ]
  repeat (go_big_quiet_step (fail))
  refine wpQuiet_nil ?_
  refine wpTree_takeL _ _ _ (by rfl) (by rfl) (hC0) ?_
  dsimp only [List.filterMap, List.getElem?_cons_zero, List.getElem?_cons_succ]
  (refine wpQuiet_load_cell (fun w' hw' => (hw'.blk H1.out.2.2.1.t mf).at_ 0 (v := .pointer (some ⟨gp, 0, none⟩)) rfl) (by rfl) _ _ (by rfl) (by rfl) _ Tryd.underlying25 (by rfl) ?_; simp only [Act.put, List.setIfInBounds_toArray, List.set_cons_zero, List.set_cons_succ])
  (refine wpQuiet_load_mid (fun w' hw' => range2 (b := fp) (off := 1) (u := .int .i64 root.1) (v := .int .i64 root.2.1) ((hw'.blk H1.out.2.2.1.t mf).at_ 1 rfl) ((hw'.blk H1.out.2.2.1.t mf).at_ 2 rfl)) (by rfl) _ _ (by rfl) (by rfl) _ Tryd.underlying23 (by rfl) (size_ref) (by rfl) ?_; simp only [Act.put, List.setIfInBounds_toArray, List.set_cons_zero, List.set_cons_succ])
  refine wpQuiet_nil ?_
  refine wpTree_one _ rfl ?_
  go_wp2_with fail
  obtain ⟨c0, L, g2, hg⟩ : ∃ c0 L g2, greach g d none root = (c0, L, g2) := ⟨_, _, _, rfl⟩
  have hGd := H1.out.1.below (Below.refl w1.heap.size w1).drew
  refine (xreach hGd.1 (Nat.le_trans HA.out.1 (by omega)) root hg).mono ?_
  rintro e w2 ⟨A2, c2, rfl, hR, -, -, hRA, hG, hS⟩
  have hC2 : Same Y1 w1 w2 := (hGd.2.trans hS).same
  have H2 := Lib.hid (And.intro hG (And.intro (H1.out.2.1.trans ((hGd.2.trans hS).sub (fun y hy => by rw [← HY.out]; exact List.mem_append_right _ hy))) (And.intro (H1.out.2.2.1.same (by rw [HY.out]; exact hC2)) (And.intro (hC2.bytes H1.out.2.2.2 (fun ad e => by rw [← HY.out]; exact List.mem_append_right _ (List.mem_cons_of_mem _ (HA.out.2.2.2.2.2 ad e)))) (And.intro hR (And.intro hRA hg))))))
  have d2 := H2.out.2.2.1.e.at_ 0 (v := .int .i64 0) rfl
  have f2 := H2.out.2.2.1.e.frozen 0
  clear hGd hG hS hC0 H1 hR hRA hg mf mb
  go_wp2_with fail
  refine TreeQ.in_ hC2 ?_
  refine wpTree_pure _ _ _ (by rfl) (by rfl) ?_
  dsimp only [List.filterMap, List.getElem?_cons_zero, List.getElem?_cons_succ]
  repeat (go_big_quiet_step (fail))
  refine wpQuiet_nil ?_
  refine wpTree_one _ rfl ?_
  go_wp2_with fail
  refine TreeQ.out (by rfl) ?_
  refine wpTree_done ?_
  clear hC2 d2 f2
  have hT2 : PtS B Y w fp gp dp root h bf br be ref A raw [bf, br, be] g2 d 0 w2 := ⟨by rw [HY.out]; exact H2.out.1, H2.out.2.1, H2.out.2.2.1, H2.out.2.2.2.1, by simp⟩
  have hT3 := hT2.set c0 HE.out.1 HE.out.2.1 HA.out.2.2.2.2.2
  have hR3 : Refs (w2.setCell ⟨be, 0, none⟩ (.int .i64 c0)) A2 L := Refs.near H2.out.2.2.2.2.1 (Near.upd ((Upd.refl _ _).set 0 _) (List.mem_singleton_self _)) (fun ad e hm => by have h1 := (H2.out.2.2.2.2.2.1 ad e).1; have h2 := HE.out.2.2.1; have h3 := List.mem_singleton.1 hm; have h4 : w1.drew.heap.size = w1.heap.size := rfl; omega)
  have H3 := Lib.hid (And.intro hT3 (And.intro hR3 H2.out.2.2.2.2.2.2))
  clear hT2 hT3 hR3 H2 HY
  generalize w2.setCell ⟨be, 0, none⟩ (.int .i64 c0) = w3 at H3 ⊢
  have d3 := H3.out.1.pb.e.at_ 0 (v := .int .i64 c0) rfl
  by_cases hc0 : c0 = 0
  case neg =>
    have k1 : (c0 != 0) = true := by simpa using hc0
    have HL : Hid (fput g d root h ref raw = (false, c0, g2, d, h)) := Lib.hid (by unfold fput; rw [H3.out.2.2, if_pos hc0])
    have HC := Lib.hid hc0
    clear hc0
    go_wp2_with fail
    have hC0 : Same [be] w3 w3.drew := ⟨Nat.le_refl _, fun _ _ => rfl⟩
    refine wp_region_tree (Same [be] w3) [2] (PlanT.takes [1] (PlanT.takes [0] (.opt 2 .done .no))) (by kernel_rfl) (by kernel_rfl) (hC0) ?_
    refine wpTree_pure _ _ _ (by rfl) (by rfl) ?_
    dsimp only [List.filterMap, List.getElem?_cons_zero, List.getElem?_cons_succ]
    repeat (go_big_quiet_step (fail))
    refine wpQuiet_nil ?_
    refine wpTree_takeL _ _ _ (by rfl) (by rfl) (hC0) ?_
    dsimp only [List.filterMap, List.getElem?_cons_zero, List.getElem?_cons_succ]
    (refine wpQuiet_load_cell (fun w' hw' => (hw'.blk H3.out.1.pb.e (List.mem_singleton_self _)).at_ 0 (v := .int .i64 c0) rfl) (by rfl) _ _ (by rfl) (by rfl) _ Tryd.underlying30 (by rfl) ?_; simp only [Act.put, List.setIfInBounds_toArray, List.set_cons_zero, List.set_cons_succ])
    refine wpQuiet_nil ?_
    refine wpTree_one _ rfl ?_
    have d4 : w3.drew.cell? ⟨be, 0, none⟩ = some (.int .i64 c0) := d3
    have f4 := H3.out.1.pb.e.drew.frozen 0
    go_wp2_with fail
    have hT5 := (H3.out.1.below (Below.refl w3.heap.size w3).drew).set c0 HE.out.1 HE.out.2.1 HA.out.2.2.2.2.2
    have H5 := Lib.hid hT5
    clear hT5 d3 d4 f4
    refine TreeQ.out (by rfl) ?_
    refine wpTree_done ?_
    clear hC0
    go_wp2_with fail
    refine put_leave_no HC.out H5.out.pb rfl rfl ?_
    rw [HL.out]
    exact ⟨rfl, H5.out.out⟩
  subst hc0
  have hbl := (Below.refl w3.heap.size w3).alloc (Nat.le_refl _) (.cells #[.bool false] 4)
  have dF := ((H3.out.1.below hbl).pb.f).at_ 0 (v := .pointer (some ⟨fp, 0, none⟩)) rfl
  clear hbl
  go_wp2_with fail
  refine (flacks_any A2 L.length c2 _).mono ?_
  rintro e w6 ⟨rfl, rfl⟩
  have eb : (w3.alloc (.cells #[.bool false] 4)).heap.size = w3.heap.size + 1 := by simp
  have h6b := (((Below.refl w3.heap.size w3).alloc (Nat.le_refl _) (.cells #[.bool false] 4)).alloc (by simp) (.cells #[.pointer (some ⟨fp, 0, none⟩)] 24)).alloc (by simp; omega) (.cells #[.slice A2 L.length c2] 29)
  have hS : PtIn w3 fp A2 c2 L.length false (((w3.alloc (.cells #[.bool false] 4)).alloc (.cells #[.pointer (some ⟨fp, 0, none⟩)] 24)).alloc (.cells #[.slice A2 L.length c2] 29)) :=
    ⟨h6b, ((Blk.new _ _ _).alloc _).alloc _, (Blk.new' _ _ _ (by simp)).alloc _, Blk.new' _ _ _ (by simp)⟩
  have hz6 : (((w3.alloc (.cells #[.bool false] 4)).alloc (.cells #[.pointer (some ⟨fp, 0, none⟩)] 24)).alloc (.cells #[.slice A2 L.length c2] 29)).heap.size = w3.heap.size + 3 := by simp
  rw [eb]
  simp only [show w3.heap.size + 1 + 1 = w3.heap.size + 2 from rfl]
  generalize (((w3.alloc (.cells #[.bool false] 4)).alloc (.cells #[.pointer (some ⟨fp, 0, none⟩)] 24)).alloc (.cells #[.slice A2 L.length c2] 29)) = w6 at hS hz6 ⊢
  have H6 := Lib.hid (And.intro hS hz6)
  obtain ⟨q, hq1, -, -, hGq, -⟩ := H3.out.1.gx
  have hgw := greach_W g d none root
  have hgn := greach_n g d none root
  rw [H3.out.2.2] at hgw hgn
  have hn512 := H3.out.1.gx.ok.h512
  have HQ := Lib.hid (And.intro hq1 (And.intro hGq (And.intro hgw (And.intro hgn hn512))))
  clear hS hz6 eb h6b dF d3 hq1 hGq hgw hgn hn512
  go_wp2_with fail
  refine wpIn_wide (n := 3).1 ?_
  refine wpIn_rangeRow rfl (by omega) (gf := 131) (lb := #[.pointer (some ⟨w3.heap.size + 2, 0, none⟩), .pointer (some ⟨w3.heap.size + 1, 0, none⟩)]) rfl trivial (enters_of Tryd.func131 (by kernel_rfl) rfl)
    (encL (lkItems g2.n L)) (fun _ => rfl) (lkItems g2.n L).length (fun k W => PtIn w3 fp A2 c2 L.length (decide (ref ∈ (lkItems g2.n L).take k)) W) (fun _ _ => False)
    (fun k W W' hx kw => hx.keptW kw (by rw [H6.out.2]; exact Nat.le_refl _)) (fun _ _ _ hx _ => hx) (by rw [List.take_zero, decide_eq_false List.not_mem_nil]; exact H6.out.1) ?row ?round ?done (fun _ _ _ _ hx => hx.elim)
  case row =>
    refine lacks_row 2 (by omega) fp (w3.heap.size + 1) (w3.heap.size + 2) A2 c2 L g2.n (by have := HQ.out.2.2.1.2; have := HQ.out.2.2.2; omega) _ fun k W hx => ?_
    exact ⟨hx.fb, hx.lb, H3.out.2.1.below hx.bel, q, g2, d, none, root, _, by rw [HQ.out.1]; exact H3.out.1.pb.t.below hx.bel H3.out.1.pb.t.lt, HQ.out.2.1.below hx.bel, rfl⟩
  case round =>
    intro l k W hl1 hl2 hI hk
    unfold encL
    rw [show (lkItems g2.n L)[k]?.getD (0, 0, ()) = (lkItems g2.n L)[k] by rw [List.getElem?_eq_getElem hk]; rfl]
    have hs := List.take_succ_eq_append_getElem hk
    generalize (lkItems g2.n L)[k] = r at hs ⊢
    have hzr := zeroRefrun
    have HI := Lib.hid (And.intro hI hs)
    clear hI hs hk
    gi_wp2_with (first
      | ((with_reducible show wpListIn _ _ _ _ _ ((⟨none, _, _, _, _, _⟩ : Oper) :: _) _ _); refine wpListIn_of (by rfl) ?_; refine wpList_store_blk (o := ⟨none, _, _, _, _, _⟩) ((Blk.new W 23 #[.int .i64 0, .int .i64 0])) (by rfl) _ _ _ (by rfl) (by rfl) (#[.int .i64 r.1, .int .i64 r.2.1]) (by rfl) (size_ref) (by rfl) (by rfl) (by simp [Value.oneCell']) ?_; intro W5 h5 hu5; refine ⟨rfl, ?_⟩)
      | fail)
    refine ⟨((Below.refl _ _).alloc (Nat.le_refl _) _).upd hu5 (Nat.le_refl _), fun W6 hW6 => ?_⟩
    have hn5 := ((Below.refl W.heap.size W).alloc (Nat.le_refl _) (.cells #[.int .i64 0, .int .i64 0] 23)).upd hu5 (Nat.le_refl _)
    have hI6 := (HI.out.1.below hn5).keptW hW6 (by rw [H6.out.2]; exact Nat.le_refl _)
    have h6 : Blk W6 W.heap.size 23 #[.int .i64 r.1, .int .i64 r.2.1] := h5.keptW hW6
    have HI6 := Lib.hid (And.intro hI6 (And.intro h6 HI.out.2))
    clear h5 hu5 hn5 hI6 hW6 HI hl1 hl2
    generalize W.heap.size = gx at HI6 h6 ⊢
    simp only [Act.put]
    have hr6 := H3.out.1.pb.r.below HI6.out.1.bel H3.out.1.pb.r.lt
    have hset : ∀ m' : Bool, KeepsFrom w6.heap.size W6 (W6.setCell ⟨w3.heap.size, 0, none⟩ (.bool m')) := fun m' => KeepsFrom.near (Near.upd ((Upd.refl _ _).set 0 _) (List.mem_singleton_self w3.heap.size)) (fun x hx => by rw [List.mem_singleton.1 hx, H6.out.2]; omega)
    have HK := Lib.hid hset
    clear hset
    by_cases hm : ref ∈ (lkItems g2.n L).take k
    · have d2 := HI6.out.1.mb.at_ 0 (v := .bool true) (by rw [decide_eq_true hm]; rfl)
      have f2 := HI6.out.1.mb.frozen 0
      have HM := Lib.hid hm
      clear hm h6 hr6
      gi_wp2_with fail
      refine ⟨HK.out true, ?_⟩
      rw [HI6.out.2.2, decide_eq_true (List.mem_append_left _ HM.out)]
      exact HI6.out.1.set true
    · have d2 := HI6.out.1.mb.at_ 0 (v := .bool false) (by rw [decide_eq_false hm]; rfl)
      have f2 := HI6.out.1.mb.frozen 0
      have HM := Lib.hid hm
      clear hm
      gi_wp2_with (first
        | ((with_reducible show wpListIn _ _ _ _ _ ((⟨some 36, _, _, _, _, _⟩ : Oper) :: _) _ _); refine wpListIn_of (by rfl) ?_; refine wpList_want (by rfl) ?_; refine wpList_load_blk (o := ⟨some 36, _, _, _, _, _⟩) (h6) (by rfl) _ _ (by rfl) (by rfl) _ Tryd.underlying23 (by rfl) (size_ref) (by rfl) ?_; refine ⟨rfl, ?_⟩)
        | ((with_reducible show wpListIn _ _ _ _ _ ((⟨some 37, _, _, _, _, _⟩ : Oper) :: _) _ _); refine wpListIn_of (by rfl) ?_; refine wpList_want (by rfl) ?_; refine wpList_load_blk (o := ⟨some 37, _, _, _, _, _⟩) (hr6) (by rfl) _ _ (by rfl) (by rfl) _ Tryd.underlying23 (by rfl) (size_ref) (by rfl) ?_; refine ⟨rfl, ?_⟩)
        | ((with_reducible show wpListIn _ _ _ _ _ ((⟨some 38, _, _, _, _, _⟩ : Oper) :: _) _ _); refine wpListIn_of (by rfl) ?_; refine wpList_want (by rfl) ?_; refine wpList_run (o := ⟨some 38, _, _, _, _, _⟩) (.bool ((r.1 == ref.1) && (r.2.1 == ref.2.1))) (by rfl) (exec_eql_ref _ _ _ _ (by rfl) r.1 r.2.1 ref.1 ref.2.1 (by rfl) (by rfl)) ?_; refine ⟨rfl, ?_⟩)
        | fail)
      refine ⟨HK.out _, ?_⟩
      rw [HI6.out.2.2, mem_snoc_dec HM.out]
      exact HI6.out.1.set _
  case done =>
    intro D W hD hI hK
    rw [List.take_length, HQ.out.2.2.2.1] at hI
    have hDs : D < W.heap.size := (Array.getElem?_eq_some_iff.1 hK).1
    have hsz := H6.out.2
    have hT := H3.out.1.more hI.bel (D := D) (by omega) hDs
    have hDY : D ∉ fp :: Y := fun hm => by have := H3.out.1.gx.own D (List.mem_append_right _ hm); omega
    have hDB : B ≤ D := by have := H3.out.1.gx.size; omega
    have HT := Lib.hid (And.intro hT (And.intro hK (And.intro hDY (And.intro hDB (show be ≠ D from fun e => by have := H3.out.1.pb.e.lt; omega)))))
    have dm := hI.mb.at_ 0 (v := .bool (decide (ref ∈ lkItems g.n L))) rfl
    clear hI hK hDs hsz hT hDY hDB
    by_cases hm : ref ∈ lkItems g.n L
    case neg =>
      have HL : Hid (fput g d root h ref raw = (false, 9, g2, d, h)) := Lib.hid (by unfold fput; rw [H3.out.2.2, if_neg (by simp), if_pos hm])
      rw [decide_eq_false hm] at dm
      have de := HT.out.1.pb.e.at_ 0 (v := .int .i64 0) rfl
      have fe := HT.out.1.pb.e.frozen 0
      clear hm
      go_wp2_with fail
      have h9 := HT.out.1.set 9 HE.out.1 HE.out.2.1 HA.out.2.2.2.2.2
      have hK9 : (W.setCell ⟨be, 0, none⟩ (.int .i64 9)).heap[D]? = some (.deferred (some [])) := ((Near.upd ((Upd.refl _ _).set 0 _) (List.mem_singleton_self be) : Near [be] W (W.setCell ⟨be, 0, none⟩ (.int .i64 9))).block D (Array.getElem?_eq_some_iff.1 HT.out.2.1).1 (fun hx => HT.out.2.2.2.2 (List.mem_singleton.1 hx).symm)).trans HT.out.2.1
      have h10 := h9.mark hK9 (List.mem_cons_self ..) HT.out.2.2.1 HT.out.2.2.2.1 HA.out.2.2.2.2.2
      refine leavesInM_mark hK9 (put_leave_no (by decide) h10.pb rfl rfl ?_)
      rw [HL.out]
      exact ⟨rfl, h10.out⟩
    rw [decide_eq_true hm] at dm
    have HM := Lib.hid hm
    clear hm
    go_wp2_with fail
    clear dm
    have hC0 : Same ([D, bf, br, be] ++ fp :: Y) W W.drew := ⟨Nat.le_refl _, fun _ _ => rfl⟩
    refine wp_region_tree (Same ([D, bf, br, be] ++ fp :: Y) W) [] (PlanT.takes [5] (PlanT.takes [0, 4] (PlanT.takes [1, 2] (PlanT.takes [3] (.opt 6 (PlanT.takes [7] .done) .no))))) (by kernel_rfl) (by kernel_rfl) (hC0) ?_
    refine wpTree_pure _ _ _ (by rfl) (by rfl) ?_
    dsimp only [List.filterMap, List.getElem?_cons_zero, List.getElem?_cons_succ]
    repeat (go_big_quiet_step (fail))
    refine wpQuiet_nil ?_
    refine wpTree_takeL _ _ _ (by rfl) (by rfl) (hC0) ?_
    dsimp only [List.filterMap, List.getElem?_cons_zero, List.getElem?_cons_succ]
    (refine wpQuiet_load_cell (fun w' hw' => (hw'.blk HT.out.1.pb.f (by simp)).at_ 0 (v := .pointer (some ⟨fp, 0, none⟩)) rfl) (by rfl) _ _ (by rfl) (by rfl) _ Tryd.underlying24 (by rfl) ?_; simp only [Act.put, List.setIfInBounds_toArray, List.set_cons_zero, List.set_cons_succ])
    (refine wpQuiet_load_blk (fun w' hw' => hw'.blk HT.out.1.pb.r (by simp)) (by rfl) _ _ (by rfl) (by rfl) _ Tryd.underlying23 (by rfl) (size_ref) (by rfl) ?_; simp only [Act.put, List.setIfInBounds_toArray, List.set_cons_zero, List.set_cons_succ])
    refine wpQuiet_nil ?_
    refine wpTree_pure _ _ _ (by rfl) (by rfl) ?_
    dsimp only [List.filterMap, List.getElem?_cons_zero, List.getElem?_cons_succ]
    repeat (go_big_quiet_step (fail))
    refine wpQuiet_nil ?_
    refine wpTree_takeL _ _ _ (by rfl) (by rfl) (hC0) ?_
    dsimp only [List.filterMap, List.getElem?_cons_zero, List.getElem?_cons_succ]
    (refine wpQuiet_load_cell (fun w' hw' => (hw'.blk HT.out.1.pb.t (by simp)).at_ 0 (v := .pointer (some ⟨gp, 0, none⟩)) rfl) (by rfl) _ _ (by rfl) (by rfl) _ Tryd.underlying25 (by rfl) ?_; simp only [Act.put, List.setIfInBounds_toArray, List.set_cons_zero, List.set_cons_succ])
    refine wpQuiet_nil ?_
    refine wpTree_one _ rfl ?_
    go_wp2_with fail
    have hT0 := HT.out.1.below (Below.refl W.heap.size W).drew
    obtain ⟨c1, g3, d3, o3, hi⟩ : ∃ c1 g3 d3 o3, ginst g2 d none ref raw = (c1, g3, d3, o3) := ⟨_, _, _, _, rfl⟩
    have ho := ginst_none g2 d ref raw
    rw [hi] at ho
    obtain rfl : o3 = none := ho
    have hiW := ginst_W g2 d ref raw
    rw [hi] at hiW
    refine (xinstall hT0.gx (by have := HQ.out.2.2.1.1; have := HA.out.1; have := HQ.out.2.2.2.2; have := HQ.out.2.2.2.1; omega) ref A n c raw HA.out.2.2.1 HA.out.2.2.2.1 HA.out.2.2.2.2.1 hT0.by_ (fun ad e => List.mem_append_right _ (List.mem_cons_of_mem _ (HA.out.2.2.2.2.2 ad e))) hi).mono ?_
    rintro e W5 ⟨rfl, hG, hS⟩
    have hC5 : Same ([D, bf, br, be] ++ fp :: Y) W W5 := hC0.trans hS.same
    have H7 := Lib.hid (And.intro (hT0.step hG hS HA.out.2.2.2.2.2) (And.intro ((hC5.block D (by simp)).trans HT.out.2.1) (And.intro hi hiW)))
    clear hT0 hi hiW hG hS hC0
    go_wp2_with fail
    refine TreeQ.in_ hC5 ?_
    refine wpTree_pure _ _ _ (by rfl) (by rfl) ?_
    dsimp only [List.filterMap, List.getElem?_cons_zero, List.getElem?_cons_succ]
    repeat (go_big_quiet_step (fail))
    refine wpQuiet_nil ?_
    refine wpTree_done ?_
    clear hC5
    have de := H7.out.1.pb.e.at_ 0 (v := .int .i64 0) rfl
    have fe := H7.out.1.pb.e.frozen 0
    by_cases hc1 : c1 = 0
    case neg =>
      have HL : Hid (fput g d root h ref raw = (false, c1, g3, d3, h)) := Lib.hid (by unfold fput; rw [H3.out.2.2, if_neg (by simp), if_neg (fun hx => hx HM.out), H7.out.2.2.1, if_pos hc1])
      have k1 : (c1 != 0) = true := by simpa using hc1
      have HC := Lib.hid hc1
      clear hc1
      go_wp2_with fail
      have h9 := H7.out.1.set c1 HE.out.1 HE.out.2.1 HA.out.2.2.2.2.2
      have hK9 : (W5.setCell ⟨be, 0, none⟩ (.int .i64 c1)).heap[D]? = some (.deferred (some [])) := ((Near.upd ((Upd.refl _ _).set 0 _) (List.mem_singleton_self be) : Near [be] W5 (W5.setCell ⟨be, 0, none⟩ (.int .i64 c1))).block D (Array.getElem?_eq_some_iff.1 H7.out.2.1).1 (fun hx => HT.out.2.2.2.2 (List.mem_singleton.1 hx).symm)).trans H7.out.2.1
      have h10 := h9.mark hK9 (List.mem_cons_self ..) HT.out.2.2.1 HT.out.2.2.2.1 HA.out.2.2.2.2.2
      refine leavesInM_mark hK9 (put_leave_no HC.out h10.pb rfl rfl ?_)
      rw [HL.out]
      exact ⟨rfl, h10.out⟩
    subst hc1
    have df := H7.out.1.pb.f.at_ 0 (v := .pointer (some ⟨fp, 0, none⟩)) rfl
    go_wp2_with fail
    obtain ⟨c4, L4, g4, hg4⟩ : ∃ c4 L4 g4, greach g3 d3 none root = (c4, L4, g4) := ⟨_, _, _, rfl⟩
    have hperm : ∀ y, y ∈ fp :: ([D, bf, br, be] ++ Y) ↔ y ∈ [D, bf, br, be] ++ fp :: Y := fun y => by simp only [List.mem_cons, List.mem_append]; grind
    refine (fready_any (Y := [D, bf, br, be] ++ Y) ⟨H7.out.1.gx.sub (fun y hy => (hperm y).1 hy), H7.out.1.pb.t⟩ (by have := H7.out.2.2.2.1; have := HQ.out.2.2.1.1; have := HA.out.1; have := HQ.out.2.2.2.2; have := HQ.out.2.2.2.1; omega) hg4).mono ?_
    rintro e W6 ⟨rfl, hF, hS⟩
    have hS6 : GStep B ([D, bf, br, be] ++ fp :: Y) W5 W6 := hS.sub (fun y hy => (hperm y).2 hy)
    have h8 := H7.out.1.step (hF.gx.sub (fun y hy => (hperm y).2 hy)) hS6 HA.out.2.2.2.2.2
    have HL : Hid (fput g d root h ref raw = (fdone c4 L4, 0, g4, d3, h + 1)) := Lib.hid (by unfold fput; rw [H3.out.2.2, if_neg (by simp), if_neg (fun hx => hx HM.out), H7.out.2.2.1, if_neg (by simp), hg4])
    have H8 := Lib.hid (And.intro h8 ((hS6.same.block D (by simp)).trans H7.out.2.1))
    clear hF hS hS6 h8 de fe df hperm hg4
    have de := H8.out.1.pb.e.at_ 0 (v := .int .i64 0) rfl
    have fe := H8.out.1.pb.e.frozen 0
    generalize fdone c4 L4 = fd at HL ⊢
    go_wp2_with fail
    have h9 := H8.out.1.set 0 HE.out.1 HE.out.2.1 HA.out.2.2.2.2.2
    have hK9 : (W6.setCell ⟨be, 0, none⟩ (.int .i64 0)).heap[D]? = some (.deferred (some [])) := ((Near.upd ((Upd.refl _ _).set 0 _) (List.mem_singleton_self be) : Near [be] W6 (W6.setCell ⟨be, 0, none⟩ (.int .i64 0))).block D (Array.getElem?_eq_some_iff.1 H8.out.2).1 (fun hx => HT.out.2.2.2.2 (List.mem_singleton.1 hx).symm)).trans H8.out.2
    have h10 := h9.mark hK9 (List.mem_cons_self ..) HT.out.2.2.1 HT.out.2.2.2.1 HA.out.2.2.2.2.2
    refine leavesInM_mark hK9 (put_leave_ok h10.pb HA.out.2.1 rfl rfl ?_)
    rw [HL.out]
    exact ⟨rfl, h10.out1 HE.out.2.2.2.1 HE.out.2.2.2.2⟩
end
end Go.Proofs.YthfdjemlibecgaaDoor

/- Two grids side by side, and a fetch of the second one. Conditions: as each says. -/
namespace Go.Proofs.YthfdjemlibecgaaDoor
open Go.RowKit
theorem GridR.same {w w' : World} {q : GPl} {g : Grd} {d : Dsk} {f : Option Fus} {B : Nat} {Y : List Nat} (h : GridR w q g d f) (k : GStep B Y w w') (hs : ∀ x ∈ q.all, x ∈ Y) : GridR w' q g d f := by
  refine h.near (X := (List.range w.heap.size).filter fun x => decide (x ∉ q.all)) ⟨k.bel.os, k.bel.tape, k.bel.output, k.bel.size, fun j hj hn => k.same.block j (hs j ?_)⟩ fun x hx hm => ?_
  · exact Classical.byContradiction fun hc => hn (List.mem_filter.2 ⟨List.mem_range.2 hj, by simpa using hc⟩)
  · have := (List.mem_filter.1 hm).2
    simp only [decide_eq_true_eq] at this
    exact this hx
/-- A grid at its places. -/
structure GR (B : Nat) (Y : List Nat) (w : World) (q : GPl) (gp dp : Nat) (g : Grd) (d : Dsk) : Prop where
  gg : q.gg = gp
  gd : q.p.gd = dp
  gf : q.gf = none
  gr : GridR w q g d none
  off : ∀ x ∈ q.all, B ≤ x ∧ x ∉ Y
  lt : ∀ y ∈ Y, y < w.heap.size
  size : B ≤ w.heap.size
section
variable {B gp dp hp ep fp n : Nat} {Y Y' : List Nat} {w w' : World} {q : GPl} {g h g' h' : Grd} {d e d' e' : Dsk} {root : RefT}
theorem GR.gx (hx : GR B Y w q gp dp g d) : GX B Y w gp dp g d := ⟨q, hx.gg, hx.gd, hx.gf, hx.gr, hx.off, hx.lt, hx.size⟩
theorem GX.ex (hx : GX B Y w gp dp g d) : ∃ q, GR B Y w q gp dp g d := by
  obtain ⟨q, h1, h2, h3, h4, h5, h6, h7⟩ := hx
  exact ⟨q, h1, h2, h3, h4, h5, h6, h7⟩
theorem GR.step {Z : List Nat} (hx : GR B Y w q gp dp g d) (S : GStep B Z w w') (hs : ∀ x ∈ q.all, x ∈ Z) : GR B Y w' q gp dp g d :=
  ⟨hx.gg, hx.gd, hx.gf, hx.gr.same S hs, hx.off, fun y hy => Nat.lt_of_lt_of_le (hx.lt y hy) S.bel.size, Nat.le_trans hx.size S.bel.size⟩
theorem GR.below (hx : GR B Y w q gp dp g d) (k : Below w.heap.size w w') : GR B Y w' q gp dp g d :=
  ⟨hx.gg, hx.gd, hx.gf, hx.gr.below k, hx.off, fun y hy => Nat.lt_of_lt_of_le (hx.lt y hy) k.size, Nat.le_trans hx.size k.size⟩
theorem GR.add (hx : GR B Y w q gp dp g d) (k : Below w.heap.size w w') {y : Nat} (hy : w.heap.size ≤ y) (hy2 : y < w'.heap.size) : GR B (y :: Y) w' q gp dp g d := by
  refine ⟨hx.gg, hx.gd, hx.gf, hx.gr.below k, fun x hm => ⟨(hx.off x hm).1, fun h1 => ?_⟩, fun z hz => ?_, Nat.le_trans hx.size k.size⟩
  · rcases List.mem_cons.1 h1 with e | e
    · have := hx.gr.lt x hm; omega
    · exact (hx.off x hm).2 e
  · rcases List.mem_cons.1 hz with rfl | e
    · exact hy2
    · exact Nat.lt_of_lt_of_le (hx.lt z e) k.size
theorem GR.sub (hx : GR B Y w q gp dp g d) (hs : ∀ y ∈ Y', y ∈ Y) : GR B Y' w q gp dp g d := ⟨hx.gg, hx.gd, hx.gf, hx.gr, fun x hm => ⟨(hx.off x hm).1, fun h1 => (hx.off x hm).2 (hs x h1)⟩, fun y hy => hx.lt y (hs y hy), hx.size⟩
/-- Two grids. -/
def T2 (B : Nat) (Y : List Nat) (w : World) (gp dp : Nat) (g : Grd) (d : Dsk) (hp ep : Nat) (h : Grd) (e : Dsk) : Prop := ∃ q, GR B Y w q gp dp g d ∧ GX B (q.all ++ Y) w hp ep h e
theorem T2.swap (hx : T2 B Y w gp dp g d hp ep h e) : T2 B Y w hp ep h e gp dp g d := by
  obtain ⟨q, hq, hx⟩ := hx
  obtain ⟨q2, h2⟩ := hx.ex
  refine ⟨q2, h2.sub (fun y hy => List.mem_append_right _ hy), q, hq.gg, hq.gd, hq.gf, hq.gr, fun x hm => ⟨(hq.off x hm).1, fun h1 => ?_⟩, fun y hy => ?_, hq.size⟩
  · rcases List.mem_append.1 h1 with h1 | h1
    · exact (h2.off x h1).2 (List.mem_append_left _ hm)
    · exact (hq.off x hm).2 h1
  · rcases List.mem_append.1 hy with h1 | h1
    · exact h2.gr.lt y h1
    · exact hq.lt y h1
/-- A second grid is made beside a first one. -/
theorem T2.new (hx : GX B Y w gp dp g d) (k : Below w.heap.size w w') (hG : GL w.heap.size w' hp ep h e) : T2 B Y w' gp dp g d hp ep h e := by
  obtain ⟨q, hq⟩ := hx.ex
  obtain ⟨q2, h1, h2, h3, h4, h5⟩ := hG
  refine ⟨q, hq.below k, q2, h1, h2, h3, h4, fun x hm => ⟨Nat.le_trans hq.size (h5 x hm), fun h6 => ?_⟩, fun y hy => ?_, Nat.le_trans hq.size k.size⟩
  · have := h5 x hm
    rcases List.mem_append.1 h6 with h6 | h6
    · have := hq.gr.lt x h6; omega
    · have := hq.lt x h6; omega
  · rcases List.mem_append.1 hy with h6 | h6
    · exact Nat.lt_of_lt_of_le (hq.gr.lt y h6) k.size
    · exact Nat.lt_of_lt_of_le (hq.lt y h6) k.size
theorem T2.below (hx : T2 B Y w gp dp g d hp ep h e) (k : Below w.heap.size w w') : T2 B Y w' gp dp g d hp ep h e ∧ GStep B Y w w' := by
  obtain ⟨q, hq, hx⟩ := hx
  exact ⟨⟨q, hq.below k, (hx.below k).1⟩, GStep.below k hq.size hq.lt⟩
theorem T2.add (hx : T2 B Y w gp dp g d hp ep h e) (k : Below w.heap.size w w') {y : Nat} (hy : w.heap.size ≤ y) (hy2 : y < w'.heap.size) : T2 B (y :: Y) w' gp dp g d hp ep h e := by
  obtain ⟨q, hq, hx⟩ := hx
  exact ⟨q, hq.add k hy hy2, (hx.add k hy hy2).sub (fun z hz => by simp only [List.mem_cons, List.mem_append] at hz ⊢; grind)⟩
/-- The second one is asked or turned. -/
theorem T2.snd {Z : List Nat} (hq : GR B Y w q gp dp g d) (hG : GX B (q.all ++ Z) w' hp ep h' e') (hS : GStep B (q.all ++ Z) w w') (hZ : ∀ y ∈ Y, y ∈ Z) : T2 B Y w' gp dp g d hp ep h' e' ∧ GStep B Y w w' :=
  ⟨⟨q, hq.step hS (fun x hx => List.mem_append_left _ hx), hG.sub (fun y hy => by rcases List.mem_append.1 hy with h | h; exact List.mem_append_left _ h; exact List.mem_append_right _ (hZ y h))⟩, hS.sub (fun y hy => List.mem_append_right _ (hZ y hy))⟩
/-- A grid, and a fetch of another one. -/
def F2 (B : Nat) (Y : List Nat) (w : World) (gp dp : Nat) (g : Grd) (d : Dsk) (fp hp ep : Nat) (h : Grd) (e : Dsk) (root : RefT) (n : Nat) : Prop := ∃ q, GR B (fp :: Y) w q gp dp g d ∧ FX B (q.all ++ Y) w fp hp ep h e root n ∧ fp ∉ q.all ++ Y ∧ B ≤ fp
theorem F2.below (hx : F2 B Y w gp dp g d fp hp ep h e root n) (k : Below w.heap.size w w') : F2 B Y w' gp dp g d fp hp ep h e root n ∧ GStep B (fp :: Y) w w' := by
  obtain ⟨q, hq, hf, h1, h2⟩ := hx
  exact ⟨⟨q, hq.below k, hf.step (hf.gx.below k).1 (hf.gx.below k).2, h1, h2⟩, GStep.below k hq.size hq.lt⟩
/-- The fetch is asked, or a block is put. -/
theorem F2.fet {n' : Nat} (hq : GR B (fp :: Y) w q gp dp g d) (hf : FX B (q.all ++ Y) w' fp hp ep h' e' root n') (hS : GStep B (q.all ++ Y) w w') (h1 : fp ∉ q.all ++ Y) (h2 : B ≤ fp) : F2 B Y w' gp dp g d fp hp ep h' e' root n' ∧ GStep B Y w w' :=
  ⟨⟨q, hq.step hS (fun _ hx => List.mem_append_left _ hx), hf, h1, h2⟩, hS.sub (fun _ hy => List.mem_append_right _ hy)⟩
/-- The two grids, where the fetch is but one of the statement's own blocks. -/
theorem F2.t2 (hx : F2 B Y w gp dp g d fp hp ep h e root n) : T2 B (fp :: Y) w gp dp g d hp ep h e ∧ Blk w fp 27 (ftc hp root n) ∧ fp ∉ Y ∧ B ≤ fp := by
  obtain ⟨q, hq, hf, h1, h2⟩ := hx
  exact ⟨⟨q, hq, hf.gx.sub (fun y hy => by simp only [List.mem_cons, List.mem_append] at hy ⊢; grind)⟩, hf.blk, fun hm => h1 (List.mem_append_right _ hm), h2⟩
theorem F2.of (hx : T2 B (fp :: Y) w gp dp g d hp ep h e) (hb : Blk w fp 27 (ftc hp root n)) (h1 : fp ∉ Y) (h2 : B ≤ fp) : F2 B Y w gp dp g d fp hp ep h e root n := by
  obtain ⟨q, hq, hx⟩ := hx
  refine ⟨q, hq, ⟨hx.sub (fun y hy => by simp only [List.mem_cons, List.mem_append] at hy ⊢; grind), hb⟩, fun hm => ?_, h2⟩
  rcases List.mem_append.1 hm with hm | hm
  · exact (hq.off fp hm).2 (List.mem_cons_self ..)
  · exact h1 hm
end
end Go.Proofs.YthfdjemlibecgaaDoor

/- A disk that nobody wrote to has no blocks. Plain facts. No condition. -/
namespace Go.Proofs.YthfdjemlibecgaaDoor
open Go.RowKit
def zSum : List UInt8 := [169, 224, 128, 121, 12, 195, 185, 231, 169, 136, 50, 75, 78, 193, 204, 20]
theorem zSum_eq : Sha.sum (List.replicate 1008 0) = zSum := by
  refine ShaN.toNat_inj ?_
  rw [ShaN.sumN_eq (List.replicate 1008 0) 16 (by rw [List.length_replicate]; decide +kernel), List.length_replicate]
  decide +kernel
theorem zero_bad : (GB.read (List.replicate 1024 0)).1 ≠ 0 := by
  have h1 : (List.replicate 1024 (0 : UInt8)).drop 16 = List.replicate 1008 0 := by rw [List.drop_replicate]
  have h2 : (List.replicate 1024 (0 : UInt8)).take 16 = List.replicate 16 0 := by rw [List.take_replicate]; rfl
  unfold GB.read
  rw [if_neg (by rw [List.length_replicate]; simp), h1, h2, zSum_eq, if_pos (by decide)]
  decide
theorem gblk_new {n : Nat} {a : Int} (h1 : 1 ≤ a) (h2 : a ≤ (n : Int)) : gblk (Dsk.new (104 + 4 * n)) a = List.replicate 1024 0 := by
  unfold gblk gplace Dsk.new
  simp only
  rw [List.drop_replicate, List.take_replicate]
  congr 1
  omega
theorem there_new {n : Nat} {r : RefT} (h1 : 1 ≤ r.1) (h2 : r.1 ≤ (n : Int)) : gthere (Dsk.new (104 + 4 * n)) r = none := gthere_bad (by rw [gblk_new h1 h2]; exact zero_bad)
end Go.Proofs.YthfdjemlibecgaaDoor

/- The fetch's laws: a grid that is made, the chapter's grid and a fetch of it to another one. Conditions: the library's table is there. -/
namespace Go.Proofs.YthfdjemlibecgaaDoor
open Go.RowKit
set_option maxRecDepth 100000 in
set_option maxHeartbeats 2000000 in
theorem fmade_any (n : Nat) (h1 : 1 ≤ n) (h2 : n ≤ 512) (w : World) :
    Calls Tryd.prog 38 #[.int .i64 (n : Int)] w fun e w' => ∃ gp dp, e = .returned (.pointer (some ⟨gp, 0, none⟩)) ∧ GL w.heap.size w' gp dp ⟨n, List.replicate n 0, []⟩ (Dsk.new (104 + 4 * n)) ∧ Below w.heap.size w w' := by
  have hn := new_all (104 + 4 * n) (by omega) w
  have hw1 : wrap64 (4 * (n : Int)) = 4 * (n : Int) := w64_in (by omega)
  have hw2 : wrap64 (104 + 4 * (n : Int)) = 104 + 4 * (n : Int) := w64_in (by omega)
  rw [show ((104 + 4 * n : Nat) : Int) = 104 + 4 * (n : Int) by omega] at hn
  have H0 := Lib.hid (And.intro h1 h2)
  clear h1 h2
  go_enter Tryd.func38, Tryd.ntmps38
  go_wp2_with fail
  refine hn.mono ?_
  rintro e w2 ⟨p, rfl, hd, hge, hbx⟩
  have hdk : DkOk w2 p none (Dsk.new (104 + 4 * n)) none := ⟨hd, trivial, Dsk.Ok.new (by have := H0.out; omega)⟩
  have H2 := Lib.hid (And.intro hdk (And.intro hge hbx))
  clear hn hd hge hbx hdk hw1 hw2
  go_wp2_with fail
  refine (gnew_any H2.out.1 (by rfl) n H0.out.1 H0.out.2 (Nat.le_refl _)).mono ?_
  rintro e w3 ⟨q, hqp, hqf, rfl, hG, hge, hbx⟩
  have H3 := Lib.hid (And.intro hqp (And.intro hqf (And.intro hG (And.intro hge hbx))))
  clear hqp hqf hG hge hbx
  go_wp2
  go_ret
  refine ⟨q.gg, p.gd, rfl, ⟨q, rfl, by rw [H3.out.1], H3.out.2.1, H3.out.2.2.1, fun x hx => ?_⟩, H2.out.2.2.trans (H3.out.2.2.2.2.mono H2.out.2.2.size)⟩
  have hs := H2.out.2.2.size
  have k := H3.out.2.2.2.1
  have k2 := H2.out.2.1
  rcases GPl.mem.1 hx with e | e | e | e | e
  · omega
  · omega
  · omega
  · rw [k.2.2.2] at e; cases e
  · rw [H3.out.1, H3.out.2.1] at e
    unfold Pl.all at e
    simp only [List.cons_append, List.nil_append, List.mem_cons, Option.toList_none, List.not_mem_nil, or_false] at e
    omega
/-- The other grid: nothing is there. -/
def h41 : Grd := ⟨4, List.replicate 4 0, [(2, 7, ())]⟩
theorem reach_none {d : Dsk} (hd : d.out = false) (t2 : gthere d (2, 7, ()) = none) (W : List RefT) : greach ⟨4, List.replicate 4 0, W⟩ d none (2, 7, ()) = (0, [(2, 7, ())], Grd.want ⟨4, List.replicate 4 0, W⟩ (2, 7, ())) := by
  have hof : Grd.of ⟨4, List.replicate 4 0, W⟩ (2, 7, ()) = true := rfl
  have k2 : gkids ⟨4, List.replicate 4 0, W⟩ d (2, 7, ()) = [] := by unfold gkids; rw [if_pos hof, t2]
  have o2 : gok ⟨4, List.replicate 4 0, W⟩ d (2, 7, ()) = false := by unfold gok; rw [hof, t2]; rfl
  have hw : gwalk ⟨4, List.replicate 4 0, W⟩ d (2, 7, ()) = [(2, 7, ())] := by
    unfold gwalk gnum
    rw [show 16 * (Grd.mk 4 (List.replicate 4 0) W).n + 2 = 65 + 1 from rfl, dfs_new List.not_mem_nil, k2, dfss_nil]
  have hm : gmiss ⟨4, List.replicate 4 0, W⟩ d (2, 7, ()) = [(2, 7, ())] := by
    unfold gmiss
    rw [hw, List.filter_cons, o2]
    rfl
  unfold greach
  rw [if_neg (by unfold Dsk.isOut; rw [hd]; simp), if_neg (by rw [hof]; simp), hm]
  unfold Grd.wants
  rw [List.foldl_cons, List.foldl_nil, if_pos hof]
theorem there_none : gthere (Dsk.new 120) (2, 7, ()) = none := there_new (n := 4) (r := (2, 7, ())) (by decide) (by decide)
set_option maxRecDepth 100000 in
set_option maxHeartbeats 8000000 in
theorem fpair_any (w : World) (hT : Tab w) : Calls Tryd.prog 44 #[] w fun e w' => ∃ (gp dp fp hp ep : Nat) (d : Dsk), e = .returned (.tuple #[.pointer (some ⟨gp, 0, none⟩), .pointer (some ⟨fp, 0, none⟩)]) ∧
      F2 w.heap.size [] w' gp dp g42 d fp hp ep h41 (Dsk.new 120) (2, 7, ()) 0 ∧ Two d ∧ Below w.heap.size w w' := by
  obtain ⟨d1, d2, e1, e2, hTwo⟩ := two_run
  have hzr := zeroRefrun
  have H0 := Lib.hid (And.intro hT (And.intro e1 (And.intro e2 hTwo)))
  clear hT e1 e2 hTwo
  go_enter Tryd.func44, Tryd.ntmps44
  go_wp2_with fail
  refine (fmade_any 4 (by omega) (by omega) w).mono ?_
  rintro e w1 ⟨gp, dp, rfl, hG, hB⟩
  have H1 := Lib.hid (And.intro (GX.of_GL (show GL w.heap.size w1 gp dp g40 (Dsk.new 120) from hG) hB.size) hB)
  clear hG hB
  go_wp2_with fail
  refine (fmade_any 4 (by omega) (by omega) w1).mono ?_
  rintro e w2 ⟨hp, ep, rfl, hG, hB⟩
  have H2 := Lib.hid (And.intro (T2.new H1.out.1 hB (show GL w1.heap.size w2 hp ep g40 (Dsk.new 120) from hG)) (H1.out.2.trans (hB.mono H1.out.2.size)))
  clear hG hB H1
  have hbk := Blk.new w2 5 #[.int .u8 97]
  go_wp2_with (first
    | ((with_reducible show wpList _ _ _ ((⟨some 21, _, _, _, _, _⟩ : Oper) :: _) _ _); refine wpList_bytes_mark (o := ⟨some 21, _, _, _, _, _⟩) (by rfl) 44 5 _ (by rfl) Tryd.underlying44 Tryd.underlying5 [97] 1 w2.heap.size hbk (by rfl) ?_; intro x3 hby hu6; have hbx := ((Below.refl w2.heap.size w2).alloc (Nat.le_refl _) (.cells #[.int .u8 97] 5)).upd hu6 (Nat.le_refl _); have H3 := Lib.hid (And.intro (T2.below H2.out.1 hbx).1 (And.intro (H2.out.2.trans (hbx.mono H2.out.2.size)) hby)); clear hu6 hbx)
    | fail)
  clear H2 hbk hby
  obtain ⟨q2, hq2, hg⟩ := H3.out.1.swap
  refine (xwrite hg (H0.out.1.below H3.out.2.1) 1 7 none (some ⟨w2.heap.size, 0, none⟩) 0 0 1 1 [] [97] rfl rfl (by simp) (by simp) (fun h => absurd h (by simp)) H3.out.2.2 H0.out.2.1).mono ?_
  rintro e w4 ⟨rfl, hG, hS⟩
  have hx := T2.snd hq2 hG hS (Y := []) (fun _ h => h)
  have H4 := Lib.hid (And.intro hx.1.swap (H3.out.2.1.trans hx.2.bel))
  clear hq2 hg hG hS hx H3
  go_wp2_with (first
    | ((with_reducible show wpList _ _ _ ((⟨none, _, _, _, _, _⟩ : Oper) :: _) _ _); refine wpList_store_blk (o := ⟨none, _, _, _, _, _⟩) ((Blk.new w4 23 #[.int .i64 0, .int .i64 0])) (by rfl) _ _ _ (by rfl) (by rfl) (#[.int .i64 1, .int .i64 7]) (by rfl) (size_ref) (by rfl) (by rfl) (by simp [Value.oneCell']) ?_; intro w5 h5 hu5; have hbx := ((Below.refl w4.heap.size w4).alloc (Nat.le_refl _) (.cells #[.int .i64 0, .int .i64 0] 23)).upd hu5 (Nat.le_refl _); have H5 := Lib.hid (And.intro (T2.below H4.out.1 hbx).1 (And.intro (H4.out.2.trans (hbx.mono H4.out.2.size)) h5)); clear hu5 hbx)
    | ((with_reducible show wpList _ _ _ ((⟨some 27, _, _, _, _, _⟩ : Oper) :: _) _ _); refine wpList_load_blk (o := ⟨some 27, _, _, _, _, _⟩) (h5) (by rfl) _ _ (by rfl) (by rfl) _ Tryd.underlying23 (by rfl) (size_ref) (by rfl) ?_)
    | ((with_reducible show wpList _ _ _ ((⟨some 30, _, _, _, _, _⟩ : Oper) :: _) _ _); refine stopped ?_)
    | fail)
  refine Stopped.mk ?_
  have hbl := ((Below.refl w5.heap.size w5).alloc (Nat.le_refl _) (.cells #[.int .i64 1, .int .i64 7] 23)).alloc (by simp) (.cells #[.int .u8 98] 5)
  have hbk := Blk.new' (w5.alloc (.cells #[.int .i64 1, .int .i64 7] 23)) 5 #[.int .u8 98] (n := w5.heap.size + 1) (by simp)
  have hr6 : Refs ((w5.alloc (.cells #[.int .i64 1, .int .i64 7] 23)).alloc (.cells #[.int .u8 98] 5)) (some ⟨w5.heap.size, 0, none⟩) [(1, 7, ())] := (Refs.of (l := [(1, 7, ())]) (reads_new w5 23 [.int .i64 1, .int .i64 7])).below ((Below.refl _ _).alloc (Nat.le_refl _) _)
  have H6 := Lib.hid (And.intro (T2.below H5.out.1 hbl).1 (And.intro (H5.out.2.1.trans (hbl.mono H5.out.2.1.size)) (And.intro hbk (And.intro hr6 hbl))))
  clear hbl hbk hr6 H4 h5
  generalize ((w5.alloc (.cells #[.int .i64 1, .int .i64 7] 23)).alloc (.cells #[.int .u8 98] 5)) = w6 at H6 ⊢
  refine wpList_bytes_mark (o := ⟨some 30, _, _, _, _, _⟩) (by rfl) 44 5 _ (by rfl) Tryd.underlying44 Tryd.underlying5 [98] 1 (w5.heap.size + 1) H6.out.2.2.1 (by rfl) ?_
  intro x7 hby hu7
  have hk7 : Near [w5.heap.size + 1] w6 x7 := Near.upd hu7 (List.mem_singleton_self _)
  have hB7 : Below w5.heap.size w5 x7 := H6.out.2.2.2.2.trans (hk7.toBelow (fun x hx => by rw [List.mem_singleton.1 hx]; omega) H6.out.2.2.2.2.size)
  have hr7 : Refs x7 (some ⟨w5.heap.size, 0, none⟩) [(1, 7, ())] := Refs.near H6.out.2.2.2.1 hk7 (fun ad e hm => by cases e; have := List.mem_singleton.1 hm; simp at this)
  have H7 := Lib.hid (And.intro (T2.below H5.out.1 hB7).1 (And.intro (H5.out.2.1.trans (hB7.mono H5.out.2.1.size)) (And.intro hby hr7)))
  clear hk7 hB7 hr7 hby hu7 H6 H5
  go_wp2_with fail
  obtain ⟨q2, hq2, hg⟩ := H7.out.1.swap
  refine (xwrite hg (H0.out.1.below H7.out.2.1) 2 7 (some ⟨w5.heap.size, 0, none⟩) (some ⟨w5.heap.size + 1, 0, none⟩) 1 1 1 1 [(1, 7, ())] [98] rfl rfl (by simp) (by simp) H7.out.2.2.2 H7.out.2.2.1 H0.out.2.2.1).mono ?_
  rintro e w8 ⟨rfl, hG, hS⟩
  have hx := T2.snd hq2 hG hS (Y := []) (fun _ h => h)
  have H8 := Lib.hid (And.intro hx.1.swap (H7.out.2.1.trans hx.2.bel))
  clear hq2 hg hG hS hx H7
  go_wp2_with (first
    | ((with_reducible show wpList _ _ _ ((⟨none, _, _, _, _, _⟩ : Oper) :: _) _ _); refine wpList_store_blk (o := ⟨none, _, _, _, _, _⟩) ((Blk.new w8 23 #[.int .i64 0, .int .i64 0])) (by rfl) _ _ _ (by rfl) (by rfl) (#[.int .i64 2, .int .i64 7]) (by rfl) (size_ref) (by rfl) (by rfl) (by simp [Value.oneCell']) ?_; intro w9 h9 hu9; have hbx := ((Below.refl w8.heap.size w8).alloc (Nat.le_refl _) (.cells #[.int .i64 0, .int .i64 0] 23)).upd hu9 (Nat.le_refl _); have H9 := Lib.hid (And.intro (T2.below H8.out.1 hbx).1 (H8.out.2.trans (hbx.mono H8.out.2.size))); clear hu9 hbx)
    | ((with_reducible show wpList _ _ _ ((⟨some 36, _, _, _, _, _⟩ : Oper) :: _) _ _); refine wpList_load_blk (o := ⟨some 36, _, _, _, _, _⟩) (h9) (by rfl) _ _ (by rfl) (by rfl) _ Tryd.underlying23 (by rfl) (size_ref) (by rfl) ?_)
    | fail)
  clear h9 H8
  obtain ⟨q, hq, hg⟩ := H9.out.1
  refine (fnew_any hg (by decide) (2, 7, ()) (reach_none (d := Dsk.new 120) rfl there_none [])).mono ?_
  rintro e w10 ⟨fp, rfl, hF, hfp, hS⟩
  have hF2 : fp ∉ q.all ++ [] ∧ w.heap.size ≤ fp := ⟨fun hm => by rw [List.append_nil] at hm; have := hq.gr.lt fp hm; omega, Nat.le_trans H9.out.2.size hfp⟩
  have hq10 := hq.step hS (fun x hx => List.mem_append_left _ hx)
  have hsz := hF.blk.lt
  have H10 := Lib.hid (And.intro (show F2 w.heap.size [] w10 gp dp g42 d2 fp hp ep h41 (Dsk.new 120) (2, 7, ()) 0 from ⟨q, ⟨hq10.gg, hq10.gd, hq10.gf, hq10.gr, fun x hx => ⟨(hq10.off x hx).1, fun hm => hF2.1 (by rw [← List.mem_singleton.1 hm]; exact List.mem_append_left _ hx)⟩, fun y hy => by rw [List.mem_singleton.1 hy]; exact hsz, hq10.size⟩, hF, hF2.1, hF2.2⟩) (H9.out.2.trans hS.bel))
  clear hq hg hF hfp hS hF2 hq10 hsz H9
  go_wp2
  go_ret2
  exact ⟨gp, dp, fp, hp, ep, d2, rfl, H10.out.1, H0.out.2.2.2, H10.out.2⟩
end Go.Proofs.YthfdjemlibecgaaDoor

/- The fetch's awake: some of the chapter's examples. Condition: the library's table is there. -/
namespace Go.Proofs.YthfdjemlibecgaaDoor
open Go.RowKit
theorem reach_h41 : greach h41 (Dsk.new 120) none (2, 7, ()) = (0, [(2, 7, ())], h41) := reach_none (d := Dsk.new 120) rfl there_none [(2, 7, ())]
theorem items_h41 : (lkItems h41.n [(2, 7, ())]).take (5 : Int).toNat = [(2, 7, ())] := by decide
set_option maxRecDepth 100000 in
set_option maxHeartbeats 8000000 in
theorem fawake_any (w : World) (hT : Tab w) : Calls Tryd.prog 20 #[] w fun e w' => e = .returned (.bool true) ∧ Below w.heap.size w w' := by
  have H0 := Lib.hid hT
  clear hT
  go_enter Tryd.func20, Tryd.ntmps20
  go_wp2_with fail
  refine (fpair_any w H0.out).mono ?_
  rintro e w1 ⟨gp, dp, fp, hp, ep, d, rfl, hF, -, hB⟩
  have H1 := Lib.hid (And.intro hF hB)
  clear hF hB
  go_wp2_with fail
  obtain ⟨q, hq, hf, h1, h2⟩ := H1.out.1
  refine (fLacks_any hf (by decide) 5 (by omega) (by omega) (by decide) reach_h41).mono ?_
  rw [items_h41]
  rintro e w2 ⟨A, c, rfl, hR, -, hF, hS⟩
  have hx := F2.fet hq hF (hS.sub (fun y hy => List.mem_cons_of_mem _ hy)) h1 h2
  have H2 := Lib.hid (And.intro hx.1 (And.intro (H1.out.2.trans hx.2.bel) hR))
  clear hq hf h1 h2 hR hF hS hx H1
  have hbl := (Below.refl w2.heap.size w2).alloc (Nat.le_refl _) (.cells #[.int .i64 2, .int .i64 7] 23)
  have hr3 : Refs (w2.alloc (.cells #[.int .i64 2, .int .i64 7] 23)) (some ⟨w2.heap.size, 0, none⟩) [(2, 7, ())] := Refs.of (l := [(2, 7, ())]) (reads_new w2 23 [.int .i64 2, .int .i64 7])
  have H3 := Lib.hid (And.intro (F2.below H2.out.1 hbl).1 (And.intro (H2.out.2.1.trans (hbl.mono H2.out.2.1.size)) (And.intro (H2.out.2.2.below hbl) hr3)))
  clear hbl hr3 H2
  go_wp2_with fail
  generalize w2.alloc (.cells #[.int .i64 2, .int .i64 7] 23) = w3 at H3 ⊢
  refine (sameRefs_any A (some ⟨w2.heap.size, 0, none⟩) 1 1 c 1 [(2, 7, ())] [(2, 7, ())] rfl rfl (by simp) w3 H3.out.2.2.1 H3.out.2.2.2).mono ?_
  rintro e w4 ⟨he, hbx⟩
  obtain rfl : e = .returned (.bool true) := by simpa using he
  have H4 := Lib.hid (And.intro (F2.below H3.out.1 hbx).1 (H3.out.2.1.trans (hbx.mono H3.out.2.1.size)))
  clear he hbx H3
  go_wp2_with fail
  obtain ⟨q, hq, hf, h1, h2⟩ := H4.out.1
  refine (fready_any hf (by decide) reach_h41).mono ?_
  rw [show fdone 0 [((2 : Int), (7 : Int), ())] = false from rfl]
  rintro e w5 ⟨rfl, hF, hS⟩
  have hx := F2.fet hq hF (hS.sub (fun y hy => List.mem_cons_of_mem _ hy)) h1 h2
  have H5 := Lib.hid (And.intro hx.1 (H4.out.2.trans hx.2.bel))
  clear hq hf h1 h2 hF hS hx H4
  go_wp2_with fail
  obtain ⟨q, hq, hf, h1, h2⟩ := H5.out.1
  refine (fhad_any hf.blk).mono ?_
  rintro e w5' ⟨rfl, hw⟩
  obtain rfl := hw.symm
  clear hq hf h1 h2 hw
  go_wp2
  go_ret
  exact ⟨rfl, H5.out.2⟩
end Go.Proofs.YthfdjemlibecgaaDoor
