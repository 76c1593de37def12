/- A ref is wanted: the grid's want. Conditions: the grid is known. -/
import Derived.Test.YtfoegmjpfkmggaaGreatDoorMGridKeeps9
namespace Go.Proofs.YtfoegmjpfkmggaaGreatDoor
open Go.RowKit
theorem refZero (w : World) : (zeroValue 4).run Tryz.prog w = .ok (.bool false) w := by kernel_rfl
/-- What want leaves: all stands where it stood but the list. -/
def GPostI (w : World) (q : GPl) (g : Grd) (d : Dsk) (f : Option Fus) (w' : World) : Prop := ∃ q' : GPl, (q'.gg = q.gg ∧ q'.p = q.p ∧ q'.gf = q.gf ∧ q'.gi = q.gi ∧ q'.gs = q.gs) ∧ GridR w' q' g d f ∧ Near q.all w w' ∧ ∀ x ∈ q'.all, x ∈ q.all ∨ w.heap.size ≤ x
theorem GPostI.same {w w' : World} {q : GPl} {g : Grd} {d : Dsk} {f : Option Fus} (h : GridR w q g d f) (k : Below w.heap.size w w') : GPostI w q g d f w' := ⟨q, ⟨rfl, rfl, rfl, rfl, rfl⟩, h.below k, Near.below k, fun _ hx => .inl hx⟩
theorem GPostI.post {w w' : World} {q : GPl} {g : Grd} {d : Dsk} {f : Option Fus} (h : GPostI w q g d f w') : GPost w q g d f w' := by
  obtain ⟨q', ⟨h1, h2, h3, -, -⟩, h4⟩ := h
  exact ⟨q', h1, h2, h3, h4⟩
section
variable {w : World} {q : GPl} {g : Grd} {d : Dsk} {f : Option Fus}
set_option maxRecDepth 100000 in
set_option maxHeartbeats 4000000 in
theorem gwant_anyI (h : GridR w q g d f) (hlen : g.W.length ≤ 1099511627776) (r : RefT) : Calls Tryz.prog 139 #[.pointer (some ⟨q.gg, 0, none⟩), .agg #[.int .i64 r.1, .int .i64 r.2.1]] w fun e w' => e = .returned (.tuple #[]) ∧ GPostI w q (g.want r) d f w' := by
  have hB := (Below.refl w.heap.size w).alloc (Nat.le_refl _) (.cells #[.int .i64 r.1, .int .i64 r.2.1] 113)
  have hr := Blk.new w 113 #[.int .i64 r.1, .int .i64 r.2.1]
  have hz := refZero
  have H0 := Lib.hid (And.intro h (And.intro hB (And.intro hr (h.below hB))))
  have HLT := Lib.hid h.lt
  clear h hB hr
  go_enter Tryz.func139, Tryz.ntmps139
  go_wp2_with fail
  generalize w.alloc (.cells #[.int .i64 r.1, .int .i64 r.2.1] 113) = w1 at H0 ⊢
  obtain ⟨wv, sp, ho1, hb, ho⟩ := H0.out.2.2.2.wn
  have HW := Lib.hid (And.intro ho1 (And.intro hb ho))
  clear ho1 hb ho
  have hC0 : Below w1.heap.size w1 w1.drew := (Below.refl _ _).drew
  have e1 : Hid (∀ w', Below w1.heap.size w1 w' → w'.cell? ⟨q.gg, 3, none⟩ = some (.map (some q.gi))) := Lib.hid fun w' hw' => (HW.out.2.1.below hw' HW.out.2.1.lt).at_ 3 (v := .map (some q.gi)) rfl
  refine wp_region_tree (Below w1.heap.size w1) [] (PlanT.takes [0, 1, 2] (PlanT.takes [3, 4] (.opt 5 (PlanT.takes [6] .done) .no))) (by kernel_rfl) (by kernel_rfl) (hC0) ?_
  refine wpTree_pure _ _ _ (by rfl) (by rfl) ?_
  dsimp only [List.filterMap, List.getElem?_cons_zero, List.getElem?_cons_succ]
  repeat (go_big_quiet_step (fail))
  refine wpQuiet_nil ?_
  refine wpTree_takeL _ _ _ (by rfl) (by rfl) (hC0) ?_
  dsimp only [List.filterMap, List.getElem?_cons_zero, List.getElem?_cons_succ]
  (refine wpQuiet_load_cell (fun w' hw' => e1.out w' hw') (by rfl) _ _ (by rfl) (by rfl) _ Tryz.underlying164 (by rfl) ?_; simp only [Act.put, List.setIfInBounds_toArray, List.set_cons_zero, List.set_cons_succ])
  (refine wpQuiet_load_blk (fun w' hw' => H0.out.2.2.1.below hw' H0.out.2.2.1.lt) (by rfl) _ _ (by rfl) (by rfl) _ Tryz.underlying113 (by rfl) (size_ref) (by rfl) ?_; simp only [Act.put, List.setIfInBounds_toArray, List.set_cons_zero, List.set_cons_succ])
  refine wpQuiet_nil ?_
  refine wpTree_one _ rfl ?_
  have hmp := H0.out.2.2.2.mp.near (X := []) (Near.below hC0) (by simp)
  go_wp2_with (first
    | ((with_reducible show wpList _ _ _ ((⟨some 9, _, _, _, _, _⟩ : Oper) :: _) _ _); refine wpList_lookup_k (o := ⟨some 9, _, _, _, _, _⟩) (by rfl) refKey _ 4 _ _ false (by rfl) Tryz.underlying164 hmp r trivial (.bool false) (refZero _) (by rfl) (by rfl) ?_; rw [if_neg (by decide), wantM_get])
    | fail)
  refine TreeQ.in_ hC0 ?_
  by_cases hr : r ∈ g.W
  · rw [decide_eq_true hr]
    have HQ := Lib.hid (And.intro (show g.want r = g from if_pos hr) (GPostI.same H0.out.1 (H0.out.2.1.trans (hC0.mono H0.out.2.1.size))))
    clear hr hmp hC0 e1
    refine wpTree_pure _ _ _ (by rfl) (by rfl) ?_
    dsimp only [List.filterMap, List.getElem?_cons_zero, List.getElem?_cons_succ]
    repeat (go_big_quiet_step (fail))
    refine wpQuiet_nil ?_
    refine wpTree_done ?_
    go_wp2
    go_end0
    exact ⟨rfl, by rw [HQ.out.1]; exact HQ.out.2⟩
  · rw [decide_eq_false hr]
    have HR := Lib.hid hr
    clear hr hmp
    refine wpTree_pure _ _ _ (by rfl) (by rfl) ?_
    dsimp only [List.filterMap, List.getElem?_cons_zero, List.getElem?_cons_succ]
    repeat (go_big_quiet_step (fail))
    refine wpQuiet_nil ?_
    refine wpTree_done ?_
    go_wp2_with fail
    have hC1 : Below w1.heap.size w1 w1.drew.drew := (Below.refl _ _).drew.drew
    refine wp_region_tree (Below w1.heap.size w1) [5] (PlanT.takes [0, 1, 2] (PlanT.takes [3, 4] (.opt 5 .done .no))) (by kernel_rfl) (by kernel_rfl) (hC1) ?_
    refine wpTree_pure _ _ _ (by rfl) (by rfl) ?_
    dsimp only [List.filterMap, List.getElem?_cons_zero, List.getElem?_cons_succ]
    repeat (go_big_quiet_step (fail))
    refine wpQuiet_nil ?_
    refine wpTree_takeL _ _ _ (by rfl) (by rfl) (hC1) ?_
    dsimp only [List.filterMap, List.getElem?_cons_zero, List.getElem?_cons_succ]
    (refine wpQuiet_load_cell (fun w' hw' => e1.out w' hw') (by rfl) _ _ (by rfl) (by rfl) _ Tryz.underlying164 (by rfl) ?_; simp only [Act.put, List.setIfInBounds_toArray, List.set_cons_zero, List.set_cons_succ])
    (refine wpQuiet_load_blk (fun w' hw' => H0.out.2.2.1.below hw' H0.out.2.2.1.lt) (by rfl) _ _ (by rfl) (by rfl) _ Tryz.underlying113 (by rfl) (size_ref) (by rfl) ?_; simp only [Act.put, List.setIfInBounds_toArray, List.set_cons_zero, List.set_cons_succ])
    refine wpQuiet_nil ?_
    refine wpTree_one _ rfl ?_
    have hmp := H0.out.2.2.2.mp.near (X := []) (Near.below hC1) (by simp)
    clear e1 hC0
    go_wp2_with (first
      | ((with_reducible show wpList _ _ _ ((⟨none, _, _, _, _, _⟩ : Oper) :: _) _ _); refine wpList_mapUpdate_k (o := ⟨none, _, _, _, _, _⟩) (by rfl) refKey _ 4 _ _ _ (by rfl) Tryz.underlying164 hmp r trivial (.bool true) (by rfl) (by rfl) (by rfl) ?_; intro w2 hm2 hu2; rw [wantM_put g.W r HR.out] at hm2)
      | fail)
    refine TreeQ.out (by rfl) ?_
    refine wpTree_done ?_
    have k2 : Near [q.gi] w1 w2 := (Near.below hC1).trans (Near.upd hu2 (List.mem_singleton_self _))
    have hap := H0.out.2.2.2.apart
    have hgi2 : q.gg ∉ [q.gi] := by rw [List.mem_singleton]; exact hap.gi
    have hb2 := HW.out.2.1.near k2 hgi2
    have hbr : w.heap.size ∉ [q.gi] := by
      rw [List.mem_singleton]
      intro e
      have := HLT.out q.gi (GPl.mem.2 (.inr (.inr (.inl rfl))))
      omega
    have hr2 := H0.out.2.2.1.near k2 hbr
    have ho2 := OwnsC.nearO HW.out.2.2 k2 (fun x hx hm => (hap.wo x (HW.out.1.symm.trans hx)).2.2 (List.mem_singleton.1 hm))
    have H2 := Lib.hid (And.intro hm2 (And.intro k2 (And.intro hb2 (And.intro hr2 (And.intro ho2 hap)))))
    clear hmp hm2 hu2 k2 hap hgi2 hb2 hbr hr2 ho2 hC1
    have hC2 : Near q.gw.toList w2 w2.drew := (Near.refl _ _).drew
    have hgg2 : q.gg ∉ q.gw.toList := by rw [Option.mem_toList]; exact fun e2 => (H2.out.2.2.2.2.2.wo _ e2).1 rfl
    have hbr2 : w.heap.size ∉ q.gw.toList := by
      rw [Option.mem_toList]
      intro e2
      have := HLT.out _ (GPl.mem.2 (.inr (.inr (.inr (.inl e2)))))
      omega
    obtain ⟨B, c, hwv, hlc, hcm, -, -⟩ := OwnsC.reads H2.out.2.2.2.2.1
    subst hwv
    go_wp2_with fail
    refine wp_region_tree (Near q.gw.toList w2) [10] (PlanT.takes [0, 1, 2, 3] (PlanT.takes [4, 5] (.opt 6 (.opt 7 (.opt 8 (PlanT.takes [9] (.opt 10 .done .no)) .no) .no) .no))) (by kernel_rfl) (by kernel_rfl) (hC2) ?_
    refine wpTree_pure _ _ _ (by rfl) (by rfl) ?_
    dsimp only [List.filterMap, List.getElem?_cons_zero, List.getElem?_cons_succ]
    repeat (go_big_quiet_step (fail))
    refine wpQuiet_nil ?_
    refine wpTree_takeL _ _ _ (by rfl) (by rfl) (hC2) ?_
    dsimp only [List.filterMap, List.getElem?_cons_zero, List.getElem?_cons_succ]
    (refine wpQuiet_load_cell (fun w' hw' => (H2.out.2.2.1.near hw' hgg2).at_ 4 (v := .slice B g.W.length c) rfl) (by rfl) _ _ (by rfl) (by rfl) _ Tryz.underlying114 (by rfl) ?_; simp only [Act.put, List.setIfInBounds_toArray, List.set_cons_zero, List.set_cons_succ])
    (refine wpQuiet_load_blk (fun w' hw' => H2.out.2.2.2.1.near hw' hbr2) (by rfl) _ _ (by rfl) (by rfl) _ Tryz.underlying113 (by rfl) (size_ref) (by rfl) ?_; simp only [Act.put, List.setIfInBounds_toArray, List.set_cons_zero, List.set_cons_succ])
    refine wpQuiet_nil ?_
    refine wpTree_one _ rfl ?_
    go_wp2_with fail
    have hra : Reads (w2.alloc (.cells #[.int .i64 r.1, .int .i64 r.2.1] 113)).drew (some ⟨w2.heap.size, 0, none⟩) [.int .i64 r.1, .int .i64 r.2.1] := Reads.below (reads_new w2 113 [.int .i64 r.1, .int .i64 r.2.1]) (Below.refl _ _).drew
    have hC3 : Below w2.heap.size w2 (w2.alloc (.cells #[.int .i64 r.1, .int .i64 r.2.1] 113)).drew := ((Below.refl _ _).alloc (Nat.le_refl _) _).drew
    have hoa := OwnsC.ownBelow H2.out.2.2.2.2.1 hC3
    refine TreeQ.in_ (Near.below hC3) ?_
    generalize (w2.alloc (.cells #[.int .i64 r.1, .int .i64 r.2.1] 113)).drew = w3 at hra hC3 hoa ⊢
    refine wpTree_one _ rfl ?_
    refine wpList_append_vals (by rfl) _ _ _ (by rfl) 0 113 (.agg #[.int .i64 0, .int .i64 0]) 2 16 Tryz.underlying114 infoRef (by rfl) (by omega) (.slice B g.W.length c) g.W.length (refCells g.W) sp (by rfl) hoa (some ⟨w2.heap.size, 0, none⟩) 1 1 [.int .i64 r.1, .int .i64 r.2.1] (by rfl) (by rfl) hra (by simp [Value.oneCell']) (by simp only [maxLen]; omega) (by omega) (by omega) ?_
    intro v4 w4 sp4 ho4 hg4 hv4 hn4
    have k3 : Near q.gw.toList w3 w4 := Near.grown hg4 (fun x hx => by rw [← HW.out.1, hx]; simp)
    go_wp2_with fail
    refine TreeQ.in_ ((Near.below hC3).trans k3) ?_
    have hap := H2.out.2.2.2.2.2
    have hne4 : v4.ownBlock ≠ some q.gg := by
      rcases hv4 with e | e
      · rw [e, HW.out.1]; exact fun e2 => (hap.wo _ e2).1 rfl
      · rw [e]; intro e2; injection e2 with e2
        have h1 := H2.out.2.2.1.lt
        have h2 := hC3.size
        omega
    have hgg : q.gg ∉ q.gw.toList := by rw [Option.mem_toList]; exact fun e2 => (hap.wo _ e2).1 rfl
    have hgi : q.gi ∉ q.gw.toList := by rw [Option.mem_toList]; exact fun e2 => (hap.wo _ e2).2.2 rfl
    have hb4 := (H2.out.2.2.1.below hC3 H2.out.2.2.1.lt).near k3 hgg
    have d4 := hb4.at_ 4 (v := .slice B g.W.length c) rfl
    have f4 := hb4.frozen 4
    have hm4 := (H2.out.1.near (X := []) (Near.below hC3) (by simp)).near k3 hgi
    have k14 : Near ([q.gi, q.gg] ++ q.gw.toList) w w4 := ((Near.below (X := [q.gi, q.gg] ++ q.gw.toList) H0.out.2.1).trans (H2.out.2.1.wider (fun x hx => by rw [List.mem_singleton.1 hx]; simp))).trans ((Near.below hC3).trans (k3.wider (fun x hx => by simp [hx])))
    have hnew : ∀ x, v4.ownBlock = some x → q.gw = some x ∨ w.heap.size ≤ x := fun x hx => by
      rcases hv4 with e | e
      · left; rw [← HW.out.1, ← e, hx]
      · right
        rw [hx] at e; injection e with e
        have h1 := H0.out.2.1.size
        have h2 := H2.out.2.1.size
        have h3 := hC3.size
        omega
    obtain ⟨B4, c4, rfl, -, -, -, -⟩ := OwnsC.reads ho4
    have H4 := Lib.hid (And.intro ho4 (And.intro hb4 (And.intro hm4 (And.intro k14 (And.intro hnew hne4)))))
    have hC4 : Near q.gw.toList w2 w4 := (Near.below hC3).trans k3
    clear ho4 hg4 hv4 hn4 k3 hne4 hgg hgi hb4 hm4 k14 hnew hoa hra hC3
    refine wpTree_one _ rfl ?_
    go_wp2_with fail
    refine TreeQ.in_ hC4 ?_
    refine wpTree_pure _ _ _ (by rfl) (by rfl) ?_
    dsimp only [List.filterMap, List.getElem?_cons_zero, List.getElem?_cons_succ]
    repeat (go_big_quiet_step (fail))
    refine wpQuiet_nil ?_
    refine wpTree_one _ rfl ?_
    go_wp2_with fail
    have hs5 : Blk (w4.setCell ⟨q.gg, 4, none⟩ (.slice B4 (g.W.length + 1) c4)) q.gg 166 (gridc q g.n (.slice B4 (g.W.length + 1) c4)) := H4.out.2.1.set_ 4 _
    have k5 : Near [q.gg] w4 (w4.setCell ⟨q.gg, 4, none⟩ (.slice B4 (g.W.length + 1) c4)) := Near.upd ((Upd.refl _ _).set 4 _) (List.mem_singleton_self _)
    generalize w4.setCell ⟨q.gg, 4, none⟩ (.slice B4 (g.W.length + 1) c4) = w5 at hs5 k5 ⊢
    have H5 := Lib.hid (And.intro hs5 k5)
    clear hs5 k5 d4 f4
    refine TreeQ.out (by rfl) ?_
    refine wpTree_done ?_
    go_wp2
    go_end0
    refine ⟨rfl, ⟨q.gg, q.gs, q.gi, (Value.slice B4 (g.W.length + 1) c4).ownBlock, q.p, q.gf⟩, ⟨rfl, rfl, rfl, rfl, rfl⟩, ?_, ?_, ?_⟩
    · have k05 : Near ([q.gi, q.gg] ++ q.gw.toList) w w5 := H4.out.2.2.2.1.trans (H5.out.2.wider (by simp))
      have hg := H0.out.1
      rw [show g.want r = { g with W := g.W ++ [r] } from if_neg HR.out]
      refine ⟨DkOk.nearX hg.dk k05 ?_, hg.st.near k05 ?_, H4.out.2.2.1.near H5.out.2 ?_, ⟨_, sp4, rfl, H5.out.1, ?_⟩, ?_, hg.ne⟩
      · intro x hx hm
        simp only [List.cons_append, List.nil_append, List.mem_cons, Option.mem_toList] at hm
        rcases hm with rfl | rfl | hm
        · exact hap.i hx
        · exact hap.g hx
        · exact hap.w _ hm hx
      · intro hm
        simp only [List.cons_append, List.nil_append, List.mem_cons, Option.mem_toList] at hm
        rcases hm with e | e | hm
        · exact hap.si e
        · exact hap.gs e.symm
        · exact (hap.wo _ hm).2.1 rfl
      · rw [List.mem_singleton]; exact fun e => hap.gi e.symm
      · have h := OwnsC.nearO H4.out.1 H5.out.2 (fun x hx hm => H4.out.2.2.2.2.2 (by rw [hx, List.mem_singleton.1 hm]))
        rw [List.length_append]
        show OwnsC 113 2 w5 0 _ (g.W.length + 1) (refCells (g.W ++ [r])) sp4
        have e : refCells (g.W ++ [r]) = refCells g.W ++ [.int .i64 r.1, .int .i64 r.2.1] := refCells_snoc g.W r.1 r.2.1
        rw [e]; exact h
      · have ho := hg.ok
        exact ⟨ho.h1, ho.h512, ho.len, ho.set, ho.room, List.nodup_append.2 ⟨ho.nd, by simp, fun x hx y hy e => by
          rw [List.mem_singleton] at hy
          subst hy; subst e
          exact HR.out hx⟩⟩
    · exact (H4.out.2.2.2.1.trans (H5.out.2.wider (by simp))).wider (fun x hx => by
        simp only [List.cons_append, List.nil_append, List.mem_cons, Option.mem_toList] at hx
        rcases hx with rfl | rfl | hx
        · exact GPl.mem.2 (.inr (.inr (.inl rfl)))
        · exact GPl.mem.2 (.inl rfl)
        · exact GPl.mem.2 (.inr (.inr (.inr (.inl hx)))))
    · intro x hx
      rcases GPl.mem.1 hx with rfl | rfl | rfl | hx | hx
      · exact .inl (GPl.mem.2 (.inl rfl))
      · exact .inl (GPl.mem.2 (.inr (.inl rfl)))
      · exact .inl (GPl.mem.2 (.inr (.inr (.inl rfl))))
      · rcases H4.out.2.2.2.2.1 x hx with e | e
        · exact .inl (GPl.mem.2 (.inr (.inr (.inr (.inl e)))))
        · exact .inr e
      · exact .inl (GPl.mem.2 (.inr (.inr (.inr (.inr hx)))))
end
end Go.Proofs.YtfoegmjpfkmggaaGreatDoor

/- What stands where, behind bytes that were laid over others. Plain facts. No condition. -/
namespace Go
theorem wr_get {L b : List UInt8} {p : Nat} (h : p + b.length ≤ L.length) (i : Nat) : (wr L p b)[i]? = if p ≤ i ∧ i < p + b.length then b[i - p]? else L[i]? := by
  have hl : (L.take p).length = p := by rw [List.length_take]; omega
  unfold wr
  by_cases h1 : i < p
  · rw [if_neg (by omega), List.getElem?_append_left (by omega), List.getElem?_take, if_pos h1]
  · rw [List.getElem?_append_right (by omega), hl]
    by_cases h2 : i < p + b.length
    · rw [if_pos ⟨by omega, h2⟩, List.getElem?_append_left (by omega)]
    · rw [if_neg (by omega), List.getElem?_append_right (by omega), List.getElem?_drop]
      congr 1; omega
theorem wr_off {L b : List UInt8} {p q n : Nat} (h : p + b.length ≤ L.length) (ha : q + n ≤ p ∨ p + b.length ≤ q) : ((wr L p b).drop q).take n = (L.drop q).take n := by
  apply List.ext_getElem?
  intro i
  rw [List.getElem?_take, List.getElem?_take]
  by_cases hi : i < n
  · rw [if_pos hi, if_pos hi, List.getElem?_drop, List.getElem?_drop, wr_get h, if_neg (by omega)]
  · rw [if_neg hi, if_neg hi]
end Go

/- A turned byte. Plain facts. No condition. -/
namespace Go
def flip (b : List UInt8) (i : Nat) (m : UInt8) : List UInt8 := b.set i (b.getD i 0 ^^^ m)
theorem flip_length (b : List UInt8) (i : Nat) (m : UInt8) : (flip b i m).length = b.length := by unfold flip; rw [List.length_set]
theorem flip_at {b : List UInt8} {i : Nat} (m : UInt8) (hi : i < b.length) : (flip b i m).getD i 0 = b.getD i 0 ^^^ m := by
  unfold flip
  rw [List.getD_eq_getElem?_getD, List.getElem?_set_self hi]; rfl
end Go

/- The blocks of a disk behind a write, and a turned byte. Plain facts. No condition. -/
namespace Go.Proofs.YtfoegmjpfkmggaaGreatDoor
open Go.RowKit
/-- A disk that is not out, with room for so many blocks. -/
structure Rm (d : Dsk) (n : Nat) : Prop where
  ok : d.Ok
  out : d.out = false
  room : 104 + 4 * n ≤ d.N
theorem gread {d : Dsk} {n : Nat} {f : Option Fus} (h : Rm d n) (hq : d.isOut f = false) {a : Int} (h1 : 1 ≤ a) (h2 : a ≤ (n : Int)) : d.read f (gplace a) 4 = (gblk d a, 0) := by
  have := h.room
  unfold Dsk.read
  rw [if_neg (by rw [hq]; simp), if_neg (by unfold gplace; omega)]
  rfl
/-- A block is written, where there is no fuse. -/
theorem gwrite {d : Dsk} {n : Nat} (h : Rm d n) {a : Int} (h1 : 1 ≤ a) (h2 : a ≤ (n : Int)) {b : List UInt8} (hb : b.length = 1024) :
    ∃ d', d.write none (gplace a) b = (0, d', none) ∧ Rm d' n ∧ d'.N = d.N ∧ gblk d' a = b ∧ ∀ c, 1 ≤ c → c ≤ (n : Int) → c ≠ a → gblk d' c = gblk d c := by
  have hr := h.room
  have hl := h.ok.len
  have hp : (gplace a).toNat = 104 + 4 * (a.toNat - 1) := by unfold gplace; omega
  have hw : d.write none (gplace a) b = (0, d.tick.put (gplace a).toNat b, none) := by
    unfold Dsk.write Dsk.isOut
    rw [if_neg (by rw [h.out]; simp), if_neg (by omega), if_neg (by rw [hb]; unfold gplace; omega)]
    rfl
  have hok := Dsk.write_ok (f := none) (at_ := gplace a) (b := b) h.ok
  rw [hw] at hok
  have hfit : 256 * (gplace a).toNat + b.length ≤ d.L.length := by rw [hl]; omega
  refine ⟨_, hw, ⟨hok, h.out, hr⟩, rfl, ?_, fun c k1 k2 hne => ?_⟩
  · show ((wr d.L (256 * (gplace a).toNat) b).drop (256 * (gplace a).toNat)).take 1024 = b
    rw [← hb]; exact wr_mid (by omega)
  · show ((wr d.L (256 * (gplace a).toNat) b).drop (256 * (gplace c).toNat)).take 1024 = _
    have hc : (gplace c).toNat = 104 + 4 * (c.toNat - 1) := by unfold gplace; omega
    exact wr_off hfit (by rw [hb]; omega)
/-- A byte of a block is turned. -/
theorem gturn {d : Dsk} {n : Nat} (h : Rm d n) {a : Int} (h1 : 1 ≤ a) (h2 : a ≤ (n : Int)) {i : Nat} (hi : i < 1024) (m : UInt8) :
    ∃ d', d.turn (gplace a + (i / 256 : Nat)) ((i % 256 : Nat) : Int) m = (0, d') ∧ Rm d' n ∧ d'.N = d.N ∧ gblk d' a = flip (gblk d a) i m ∧ ∀ c, 1 ≤ c → c ≤ (n : Int) → c ≠ a → gblk d' c = gblk d c := by
  have hr := h.room
  have hl := h.ok.len
  have hp : (gplace a).toNat = 104 + 4 * (a.toNat - 1) := by unfold gplace; omega
  have hs : (gplace a + (i / 256 : Nat)).toNat = (gplace a).toNat + i / 256 := by unfold gplace; omega
  have hpos : ((gplace a).toNat + i / 256) * 256 + i % 256 = 256 * (gplace a).toNat + i := by omega
  have e : d.turn (gplace a + (i / 256 : Nat)) ((i % 256 : Nat) : Int) m = (0, { d with L := d.L.set (256 * (gplace a).toNat + i) (d.L.getD (256 * (gplace a).toNat + i) 0 ^^^ m) }) := by
    unfold Dsk.turn
    rw [if_neg (by unfold gplace; omega), hs, Int.toNat_natCast, hpos]
  have hok := Dsk.turn_ok (s := gplace a + (i / 256 : Nat)) (a := ((i % 256 : Nat) : Int)) (m := m) h.ok
  rw [e] at hok
  refine ⟨_, e, ⟨hok, h.out, hr⟩, rfl, ?_, fun c k1 k2 hne => ?_⟩
  · unfold gblk flip
    have hg : ((d.L.drop (256 * (gplace a).toNat)).take 1024).getD i 0 = d.L.getD (256 * (gplace a).toNat + i) 0 := by
      rw [List.getD_eq_getElem?_getD, List.getElem?_take, if_pos hi, List.getElem?_drop, List.getD_eq_getElem?_getD]
    apply List.ext_getElem?
    intro j
    rw [hg]
    by_cases hj : j < 1024
    · rw [List.getElem?_take, if_pos hj, List.getElem?_drop]
      by_cases hq : j = i
      · subst hq
        rw [List.getElem?_set_self (by rw [hl]; omega), List.getElem?_set_self (by rw [List.length_take, List.length_drop, hl]; omega)]
      · rw [List.getElem?_set_ne (by omega), List.getElem?_set_ne (fun e => hq e.symm), List.getElem?_take, if_pos hj, List.getElem?_drop]
    · rw [List.getElem?_eq_none (by rw [List.length_take]; omega), List.getElem?_eq_none (by rw [List.length_set, List.length_take]; omega)]
  · unfold gblk
    have hc : (gplace c).toNat = 104 + 4 * (c.toNat - 1) := by unfold gplace; omega
    apply List.ext_getElem?
    intro j
    rw [List.getElem?_take, List.getElem?_take]
    by_cases hj : j < 1024
    · rw [if_pos hj, if_pos hj, List.getElem?_drop, List.getElem?_drop, List.getElem?_set_ne (by omega)]
    · rw [if_neg hj, if_neg hj]
/-- What is there. -/
theorem gthere_some {d : Dsk} {b : GBT} (hok : GB.ok b = true) (h : gblk d b.2.1.1 = GB.bytes b) : gthere d b.2.1 = some b := by
  unfold gthere
  rw [h, GB.read_bytes b hok, if_pos ⟨rfl, rfl⟩]
theorem gthere_other {d : Dsk} {b : GBT} {r : RefT} (hok : GB.ok b = true) (h : gblk d r.1 = GB.bytes b) (hne : b.2.1 ≠ r) : gthere d r = none := by
  unfold gthere
  rw [h, GB.read_bytes b hok, if_neg fun h => hne h.2]
theorem gthere_bad {d : Dsk} {r : RefT} (h : (GB.read (gblk d r.1)).1 ≠ 0) : gthere d r = none := by
  unfold gthere
  rw [if_neg fun x => h x.1]
end Go.Proofs.YtfoegmjpfkmggaaGreatDoor

/- What a ref names on a grid's disk: the grid's there. Conditions: the grid is known; the disk is not out; the ref is of the grid. -/
namespace Go
open Go.RowKit
theorem results_row_tmps {P : Program} {fn : Func} {p q r : Tmp} {ty : TypeId} (h : fn.results = #[.cell p ty, .tmp q, .tmp r]) (tmps : Array Value) (w : World) (g : Nat) (t : TypeId) (cs : Array Value) (d : TypeDesc)
    (hp : tmps.getD p undef = .pointer (some ⟨g, 0, none⟩)) (hg : Blk w g t cs)
    (hu : P.underlying ty = some d) (hd : (match d with | .struct _ | .array _ _ => true | _ => false) = true) (hi : (P.info? ty).map (·.size) = some cs.size) :
    (results fn tmps).run P w = .ok (.tuple #[.agg cs, tmps.getD q undef, tmps.getD r undef]) w := by
  have hp' : tmps[p]?.getD undef = .pointer (some ⟨g, 0, none⟩) := by simpa using hp
  simp [results, h, hp', asAddr, run_loadVar_row w g t ty cs (0, 0) d hg hu hd hi]
end Go
namespace Go.Proofs.YtfoegmjpfkmggaaGreatDoor
open Go.RowKit
def gbc (b : GBT) (A : Option Addr) (c : Nat) (B : Option Addr) (e : Nat) : Array Value := #[.int .i64 b.1, .int .i64 b.2.1.1, .int .i64 b.2.1.2.1, .slice A b.2.2.1.length c, .slice B b.2.2.2.1.length e]
theorem zeroGBrun (w : World) : (zeroValue 116).run Tryz.prog w = .ok (.agg #[.int .i64 0, .int .i64 0, .int .i64 0, .slice none 0 0, .slice none 0 0]) w := by kernel_rfl
/-- A block and its bytes are told. -/
def GBTold (o : Option GBT) (raw : List UInt8) (w0 : World) (v1 v2 : Value) (w : World) : Prop :=
  ∃ A c B e C, v1 = .agg (gbc (o.getD GB.none_) A c B e) ∧ v2 = .slice C (if o.isSome then raw else []).length (if o.isSome then raw else []).length ∧
    Refs w A (o.getD GB.none_).2.2.1 ∧ Bytes w B (o.getD GB.none_).2.2.2.1 ∧ (o.getD GB.none_).2.2.1.length ≤ c ∧ (o.getD GB.none_).2.2.2.1.length ≤ e ∧ e ≤ 9223372036854775807 ∧
    (o.isSome = true → ∃ g, C = some ⟨g, 0, none⟩ ∧ w0.heap.size ≤ g ∧ Blk w g 5 (raw.map u8v).toArray) ∧ (∀ ad, A = some ad → w0.heap.size ≤ ad.block) ∧ ∀ ad, B = some ad → w0.heap.size ≤ ad.block
theorem GBTold.none_ (raw : List UInt8) (w0 w : World) : GBTold none raw w0 (.agg zeroGB) (.slice none 0 0) w :=
  ⟨none, 0, none, 0, none, rfl, rfl, fun h => absurd h (by simp [GB.none_]), Reads.nil _ _, Nat.le_refl _, Nat.le_refl _, by omega, (fun h => by cases h), (fun _ e => by cases e), (fun _ e => by cases e)⟩
theorem GBTold.below {o : Option GBT} {raw : List UInt8} {w0 w w' : World} {v1 v2 : Value} (h : GBTold o raw w0 v1 v2 w) (k : Below w.heap.size w w') : GBTold o raw w0 v1 v2 w' := by
  obtain ⟨A, c, B, e, C, h1, h2, h3, h4, h5, h6, h7, h8, h9⟩ := h
  refine ⟨A, c, B, e, C, h1, h2, h3.below k, Bytes.below h4 k, h5, h6, h7, fun hs => ?_, h9⟩
  obtain ⟨g, e1, e2, e3⟩ := h8 hs
  exact ⟨g, e1, e2, e3.below k e3.lt⟩
section
variable {w : World} {q : GPl} {g : Grd} {d : Dsk} {f : Option Fus}
set_option maxRecDepth 100000 in
set_option maxHeartbeats 4000000 in
theorem gthere_any (h : GridR w q g d f) (hq : d.isOut f = false) (r : RefT) (hr : g.of r = true) :
    Calls Tryz.prog 138 #[.pointer (some ⟨q.gg, 0, none⟩), .agg #[.int .i64 r.1, .int .i64 r.2.1]] w fun e w' => ∃ v1 v2, e = .returned (.tuple #[v1, v2, .bool (gthere d r).isSome]) ∧ GBTold (gthere d r) (gblk d r.1) w v1 v2 w' ∧ Below w.heap.size w w' := by
  obtain ⟨s1, s2, s3, s4⟩ := Grd.of_spec hr
  have h512 := h.ok.h512
  have hroom := h.ok.room
  obtain ⟨wv, hb⟩ := h.blk
  have hz := zeroGBrun
  have hB := ((Below.refl w.heap.size w).alloc (Nat.le_refl _) (.cells #[.int .i64 r.1, .int .i64 r.2.1] 113)).alloc (by simp) (.cells #[.int .i64 0, .int .i64 0, .int .i64 0, .slice none 0 0, .slice none 0 0] 116)
  have hbr := (Blk.new w 113 #[.int .i64 r.1, .int .i64 r.2.1]).alloc (.cells #[.int .i64 0, .int .i64 0, .int .i64 0, .slice none 0 0, .slice none 0 0] 116)
  have hbz := Blk.new' (w.alloc (.cells #[.int .i64 r.1, .int .i64 r.2.1] 113)) 116 #[.int .i64 0, .int .i64 0, .int .i64 0, .slice none 0 0, .slice none 0 0] (n := w.heap.size + 1) (by simp)
  have hgl : (gblk d r.1).length = 1024 := by
    unfold gblk gplace
    rw [List.length_take, List.length_drop, h.dk.ok.len]; omega
  have hrd : d.read f (gplace r.1) 4 = (gblk d r.1, 0) := by
    unfold Dsk.read
    rw [if_neg (by rw [hq]; simp), if_neg (by unfold gplace; omega)]
    rfl
  have H0 := Lib.hid (And.intro h (And.intro hB (And.intro hb (And.intro hbr (And.intro hbz (And.intro hgl hrd))))))
  have HS := Lib.hid (And.intro s1 (And.intro s2 h512))
  clear h hB hb hbr hbz hgl hrd s1 s2 s3 s4 h512 hroom hq hr
  go_enter Tryz.func138, Tryz.ntmps138
  go_wp2_with fail
  generalize (w.alloc (.cells #[.int .i64 r.1, .int .i64 r.2.1] 113)).alloc (.cells #[.int .i64 0, .int .i64 0, .int .i64 0, .slice none 0 0, .slice none 0 0] 116) = w1 at H0 ⊢
  have hC0 : Below w1.heap.size w1 w1.drew := (Below.refl _ _).drew
  have HG : Hid (∀ w', Below w1.heap.size w1 w' → GridR w' q g d f ∧ w'.cell? ⟨q.gg, 0, none⟩ = some (.pointer (some ⟨q.p.gd, 0, none⟩)) ∧ w'.cell? ⟨w.heap.size, 0, none⟩ = some (.int .i64 r.1)) := Lib.hid fun w' hw' => by
    have k := H0.out.2.1.trans (hw'.mono H0.out.2.1.size)
    exact ⟨H0.out.1.below k, (H0.out.2.2.1.below k H0.out.2.2.1.lt).at_ 0 rfl, (H0.out.2.2.2.1.below hw' H0.out.2.2.2.1.lt).at_ 0 rfl⟩
  refine wp_region_tree (Below w1.heap.size w1) [] (PlanT.takes [0, 1, 2, 4] (PlanT.takes [3, 5] (.opt 6 (.opt 7 (PlanT.takes [8, 9, 10, 11, 12] .done) .no) .no))) (by kernel_rfl) (by kernel_rfl) (hC0) ?_
  refine wpTree_pure _ _ _ (by rfl) (by rfl) ?_
  dsimp only [List.filterMap, List.getElem?_cons_zero, List.getElem?_cons_succ]
  repeat (go_big_quiet_step (fail))
  refine wpQuiet_nil ?_
  refine wpTree_takeL _ _ _ (by rfl) (by rfl) (hC0) ?_
  dsimp only [List.filterMap, List.getElem?_cons_zero, List.getElem?_cons_succ]
  (refine wpQuiet_load_cell (fun w' hw' => (HG.out w' hw').2.1) (by rfl) _ _ (by rfl) (by rfl) _ Tryz.underlying25 (by rfl) ?_; simp only [Act.put, List.setIfInBounds_toArray, List.set_cons_zero, List.set_cons_succ])
  (refine wpQuiet_load_cell (fun w' hw' => (HG.out w' hw').2.2) (by rfl) _ _ (by rfl) (by rfl) _ Tryz.underlying3 (by rfl) ?_; simp only [Act.put, List.setIfInBounds_toArray, List.set_cons_zero, List.set_cons_succ])
  refine wpQuiet_nil ?_
  refine wpTree_one _ rfl ?_
  go_wp2_with fail
  refine (gplace_any r.1 HS.out.1 (by have := HS.out.2; omega) _).mono ?_
  rintro e w2 ⟨rfl, hw2⟩
  have hC1 : Below w1.heap.size w1 w2 := by rw [hw2]; exact hC0
  clear hw2 hC0
  go_wp2_with fail
  refine TreeQ.in_ hC1 ?_
  refine wpTree_one _ rfl ?_
  go_wp2_with fail
  have hg2 := (HG.out _ hC1).1
  have hR := read_all (gplace r.1) 4 hg2.dk.dr hg2.dk.fr hg2.dk.ok
  rw [H0.out.2.2.2.2.2.2] at hR
  refine hR.mono ?_
  rintro e w3 ⟨C, rfl, (⟨-, gr, rfl, hgr, hraw⟩ | ⟨h0, -⟩), hbx⟩
  case inr => exact absurd rfl h0
  rw [H0.out.2.2.2.2.2.1]
  have hC2 := hC1.trans (hbx.mono hC1.size)
  have H3 := Lib.hid (And.intro hraw (And.intro hC2 (show w.heap.size + 2 ≤ gr from by have h1 := H0.out.2.2.2.2.1.lt; have h2 := hC1.size; omega)))
  clear hR hg2 hC1 hbx hraw hgr
  go_wp2_with fail
  refine TreeQ.in_ hC2 ?_
  refine wpTree_pure _ _ _ (by rfl) (by rfl) ?_
  dsimp only [List.filterMap, List.getElem?_cons_zero, List.getElem?_cons_succ]
  repeat (go_big_quiet_step (fail))
  refine wpQuiet_nil ?_
  refine wpTree_done ?_
  clear hC2
  go_wp2_with fail
  refine (gbRead_any (some ⟨gr, 0, none⟩) 1024 1024 (gblk d r.1) H0.out.2.2.2.2.2.1.symm (Nat.le_refl _) (by omega) w3 H3.out.1.bytes).mono ?_
  rintro e w4 ⟨A2, c2, B2, d2, rfl, hr2, hb2, hl2, hm2, hd2, hbx, hfA, hfB⟩
  obtain ⟨rd, hrd⟩ : ∃ x, x = GB.read (gblk d r.1) := ⟨_, rfl⟩
  rw [← hrd] at hr2 hb2 hl2 hm2 ⊢
  have HRD := Lib.hid hrd
  have hw3 : w.heap.size + 2 ≤ w3.heap.size := by have h1 := H0.out.2.2.2.2.1.lt; have h2 := H3.out.2.1.size; omega
  have HF := Lib.hid (And.intro (fun ad e => Nat.le_trans hw3 (hfA ad e)) (fun ad e => Nat.le_trans hw3 (hfB ad e)))
  clear hfA hfB hw3
  have hC3 := H3.out.2.1.trans (hbx.mono H3.out.2.1.size)
  have hr34 := H3.out.1.below hbx H3.out.1.lt
  have H4 := Lib.hid (And.intro hr2 (And.intro hb2 (And.intro hl2 (And.intro hm2 (And.intro hd2 (And.intro hC3 hr34))))))
  clear hrd hr2 hb2 hl2 hm2 hd2 hbx hC3 hr34
  obtain ⟨code, b⟩ := rd
  simp only at H4 ⊢
  by_cases hc : code = 0
  · subst hc
    by_cases he : b.2.1 = r
    · have HT : Hid (gthere d r = some b) := Lib.hid (by unfold gthere; rw [← HRD.out]; exact if_pos ⟨rfl, he⟩)
      have HN : Hid ((!((b.2.1.1 == r.1) && (b.2.1.2.1 == r.2.1))) = false) := Lib.hid (by rw [he]; simp)
      clear he
      go_wp2_with (first
        | ((with_reducible show wpList _ _ _ ((⟨none, _, _, _, _, _⟩ : Oper) :: _) _ _); refine wpList_store_blk (o := ⟨none, _, _, _, _, _⟩) ((Blk.new w4 116 #[.int .i64 0, .int .i64 0, .int .i64 0, .slice none 0 0, .slice none 0 0])) (by rfl) _ _ _ (by rfl) (by rfl) (gbc b A2 c2 B2 d2) (by rfl) (sizeGB) (by rfl) (by rfl) (by simp [gbc, Value.oneCell']) ?_; intro w5 h5 hu5; have hbx := ((Below.refl w4.heap.size w4).alloc (Nat.le_refl _) (.cells #[.int .i64 0, .int .i64 0, .int .i64 0, .slice none 0 0, .slice none 0 0] 116)).upd hu5 (Nat.le_refl _); have hC5 := H4.out.2.2.2.2.2.1.trans (hbx.mono H4.out.2.2.2.2.2.1.size); have hk2 := H0.out.2.2.2.1.below hC5 H0.out.2.2.2.1.lt; have hk3 := H0.out.2.2.2.2.1.below hC5 H0.out.2.2.2.2.1.lt; have hk4 := Lib.hid (And.intro (H4.out.1.below hbx) (And.intro (Bytes.below H4.out.2.1 hbx) (H4.out.2.2.2.2.2.2.below hbx H4.out.2.2.2.2.2.2.lt))); clear hu5 hbx)
        | (((with_reducible show wpList _ _ _ ((⟨some 33, _, _, _, _, _⟩ : Oper) :: _) _ _); refine wpList_want (by rfl) ?_; refine wpList_load_mid (o := ⟨some 33, _, _, _, _, _⟩) (range2 (b := w4.heap.size) (off := 1) (u := .int .i64 b.2.1.1) (v := .int .i64 b.2.1.2.1) (h5.at_ 1 (v := .int .i64 b.2.1.1) rfl) (h5.at_ 2 (v := .int .i64 b.2.1.2.1) rfl)) (by rfl) _ _ (by rfl) (by rfl) _ Tryz.underlying113 (by rfl) size_ref (by rfl) ?_))
        | ((with_reducible show wpList _ _ _ ((⟨some 34, _, _, _, _, _⟩ : Oper) :: _) _ _); refine wpList_want (by rfl) ?_; refine wpList_load_blk (o := ⟨some 34, _, _, _, _, _⟩) (hk2) (by rfl) _ _ (by rfl) (by rfl) _ Tryz.underlying113 (by rfl) (size_ref) (by rfl) ?_)
        | ((with_reducible show wpList _ _ _ ((⟨some 35, _, _, _, _, _⟩ : Oper) :: _) _ _); refine wpList_want (by rfl) ?_; refine wpList_run (o := ⟨some 35, _, _, _, _, _⟩) _ (by rfl) (exec_neq_ref _ _ _ _ (by rfl) b.2.1.1 b.2.1.2.1 r.1 r.2.1 (by rfl) (by rfl)) ?_; rw [HN.out])
        | ((with_reducible show wpList _ _ _ ((⟨some 38, _, _, _, _, _⟩ : Oper) :: _) _ _); refine wpList_load_blk (o := ⟨some 38, _, _, _, _, _⟩) (h5) (by rfl) _ _ (by rfl) (by rfl) _ Tryz.underlying116 (by rfl) (sizeGB) (by rfl) ?_)
        | ((with_reducible show wpList _ _ _ ((⟨none, _, _, _, _, _⟩ : Oper) :: _) _ _); refine wpList_store_blk (o := ⟨none, _, _, _, _, _⟩) (hk3) (by rfl) _ _ _ (by rfl) (by rfl) (gbc b A2 c2 B2 d2) (by rfl) (sizeGB) (by rfl) (by rfl) (by simp [gbc, Value.oneCell']) ?_; intro w6 h6 hu6)
        | fail)
      refine bodyPost_ret (results_row_tmps (by rfl) _ _ (w.heap.size + 1) _ _ _ (by rfl) h6 Tryz.underlying116 (by rfl) sizeGB) rfl ?_
      have hB6 := (H0.out.2.1.trans (hC5.mono H0.out.2.1.size)).upd hu6 (Nat.le_succ _)
      rw [HT.out]
      have k6 : Near [w.heap.size + 1] w5 w6 := Near.upd hu6 (List.mem_singleton_self _)
      have hA : ∀ ad, A2 = some ad → ad.block ≠ w.heap.size + 1 := fun ad e => by have := HF.out.1 ad e; omega
      have hBn : ∀ ad, B2 = some ad → ad.block ≠ w.heap.size + 1 := fun ad e => by have := HF.out.2 ad e; omega
      have hl : (gblk d r.1).length = 1024 := H0.out.2.2.2.2.2.1
      refine ⟨_, _, rfl, ⟨A2, c2, B2, d2, some ⟨gr, 0, none⟩, rfl, ?_, Refs.of (Reads.upd (Refs.reads hk4.out.1) hu6 hA), Reads.upd hk4.out.2.1 hu6 hBn, H4.out.2.2.1, H4.out.2.2.2.1, H4.out.2.2.2.2.1, fun _ => ⟨gr, rfl, by have := H3.out.2.2; omega, hk4.out.2.2.near k6 (by rw [List.mem_singleton]; have := H3.out.2.2; omega)⟩, fun ad e => by have := HF.out.1 ad e; omega, fun ad e => by have := HF.out.2 ad e; omega⟩, hB6⟩
      show Value.slice _ 1024 1024 = Value.slice _ (gblk d r.1).length (gblk d r.1).length
      rw [hl]
    · have HT : Hid (gthere d r = none) := Lib.hid (by unfold gthere; rw [← HRD.out]; exact if_neg fun x => he x.2)
      have HN : Hid ((!((b.2.1.1 == r.1) && (b.2.1.2.1 == r.2.1))) = true) := Lib.hid (by
        rw [Bool.not_eq_true', Bool.and_eq_false_iff]
        by_cases h1 : b.2.1.1 = r.1
        · right; rw [beq_eq_false_iff_ne]; exact fun h2 => he (Prod.ext h1 (Prod.ext h2 rfl))
        · left; rw [beq_eq_false_iff_ne]; exact h1)
      clear he
      go_wp2_with (first
        | ((with_reducible show wpList _ _ _ ((⟨none, _, _, _, _, _⟩ : Oper) :: _) _ _); refine wpList_store_blk (o := ⟨none, _, _, _, _, _⟩) ((Blk.new w4 116 #[.int .i64 0, .int .i64 0, .int .i64 0, .slice none 0 0, .slice none 0 0])) (by rfl) _ _ _ (by rfl) (by rfl) (gbc b A2 c2 B2 d2) (by rfl) (sizeGB) (by rfl) (by rfl) (by simp [gbc, Value.oneCell']) ?_; intro w5 h5 hu5; have hbx := ((Below.refl w4.heap.size w4).alloc (Nat.le_refl _) (.cells #[.int .i64 0, .int .i64 0, .int .i64 0, .slice none 0 0, .slice none 0 0] 116)).upd hu5 (Nat.le_refl _); have hC5 := H4.out.2.2.2.2.2.1.trans (hbx.mono H4.out.2.2.2.2.2.1.size); have hk2 := H0.out.2.2.2.1.below hC5 H0.out.2.2.2.1.lt; have hk3 := H0.out.2.2.2.2.1.below hC5 H0.out.2.2.2.2.1.lt; have hk4 := Lib.hid (And.intro (H4.out.1.below hbx) (And.intro (Bytes.below H4.out.2.1 hbx) (H4.out.2.2.2.2.2.2.below hbx H4.out.2.2.2.2.2.2.lt))); clear hu5 hbx)
        | (((with_reducible show wpList _ _ _ ((⟨some 33, _, _, _, _, _⟩ : Oper) :: _) _ _); refine wpList_want (by rfl) ?_; refine wpList_load_mid (o := ⟨some 33, _, _, _, _, _⟩) (range2 (b := w4.heap.size) (off := 1) (u := .int .i64 b.2.1.1) (v := .int .i64 b.2.1.2.1) (h5.at_ 1 (v := .int .i64 b.2.1.1) rfl) (h5.at_ 2 (v := .int .i64 b.2.1.2.1) rfl)) (by rfl) _ _ (by rfl) (by rfl) _ Tryz.underlying113 (by rfl) size_ref (by rfl) ?_))
        | ((with_reducible show wpList _ _ _ ((⟨some 34, _, _, _, _, _⟩ : Oper) :: _) _ _); refine wpList_want (by rfl) ?_; refine wpList_load_blk (o := ⟨some 34, _, _, _, _, _⟩) (hk2) (by rfl) _ _ (by rfl) (by rfl) _ Tryz.underlying113 (by rfl) (size_ref) (by rfl) ?_)
        | ((with_reducible show wpList _ _ _ ((⟨some 35, _, _, _, _, _⟩ : Oper) :: _) _ _); refine wpList_want (by rfl) ?_; refine wpList_run (o := ⟨some 35, _, _, _, _, _⟩) _ (by rfl) (exec_neq_ref _ _ _ _ (by rfl) b.2.1.1 b.2.1.2.1 r.1 r.2.1 (by rfl) (by rfl)) ?_; rw [HN.out])
        | ((with_reducible show wpList _ _ _ ((⟨none, _, _, _, _, _⟩ : Oper) :: _) _ _); refine wpList_store_blk (o := ⟨none, _, _, _, _, _⟩) (hk3) (by rfl) _ _ _ (by rfl) (by rfl) (zeroGB) (by rfl) (sizeGB) (by rfl) (by rfl) (by exact zeroGB_one) ?_; intro w6 h6 hu6)
        | fail)
      refine bodyPost_ret (results_row_tmps (by rfl) _ _ (w.heap.size + 1) _ _ _ (by rfl) h6 Tryz.underlying116 (by rfl) sizeGB) rfl ?_
      have hB6 := (H0.out.2.1.trans (hC5.mono H0.out.2.1.size)).upd hu6 (Nat.le_succ _)
      rw [HT.out]
      exact ⟨_, _, rfl, GBTold.none_ _ _ _, hB6⟩
  · have HT : Hid (gthere d r = none) := Lib.hid (by unfold gthere; rw [← HRD.out]; exact if_neg fun x => hc x.1)
    have hcb : (code != 0) = true := by rw [bne_iff_ne]; exact hc
    clear hc
    go_wp2_with (first
      | ((with_reducible show wpList _ _ _ ((⟨none, _, _, _, _, _⟩ : Oper) :: _) _ _); refine wpList_store_blk (o := ⟨none, _, _, _, _, _⟩) ((Blk.new w4 116 #[.int .i64 0, .int .i64 0, .int .i64 0, .slice none 0 0, .slice none 0 0])) (by rfl) _ _ _ (by rfl) (by rfl) (gbc b A2 c2 B2 d2) (by rfl) (sizeGB) (by rfl) (by rfl) (by simp [gbc, Value.oneCell']) ?_; intro w5 h5 hu5; have hbx := ((Below.refl w4.heap.size w4).alloc (Nat.le_refl _) (.cells #[.int .i64 0, .int .i64 0, .int .i64 0, .slice none 0 0, .slice none 0 0] 116)).upd hu5 (Nat.le_refl _); have hC5 := H4.out.2.2.2.2.2.1.trans (hbx.mono H4.out.2.2.2.2.2.1.size); have hk2 := H0.out.2.2.2.1.below hC5 H0.out.2.2.2.1.lt; have hk3 := H0.out.2.2.2.2.1.below hC5 H0.out.2.2.2.2.1.lt; have hk4 := Lib.hid (And.intro (H4.out.1.below hbx) (And.intro (Bytes.below H4.out.2.1 hbx) (H4.out.2.2.2.2.2.2.below hbx H4.out.2.2.2.2.2.2.lt))); clear hu5 hbx)
      | ((with_reducible show wpList _ _ _ ((⟨none, _, _, _, _, _⟩ : Oper) :: _) _ _); refine wpList_store_blk (o := ⟨none, _, _, _, _, _⟩) (hk3) (by rfl) _ _ _ (by rfl) (by rfl) (zeroGB) (by rfl) (sizeGB) (by rfl) (by rfl) (by exact zeroGB_one) ?_; intro w6 h6 hu6)
      | fail)
    refine bodyPost_ret (results_row_tmps (by rfl) _ _ (w.heap.size + 1) _ _ _ (by rfl) h6 Tryz.underlying116 (by rfl) sizeGB) rfl ?_
    have hB6 := (H0.out.2.1.trans (hC5.mono H0.out.2.1.size)).upd hu6 (Nat.le_succ _)
    rw [HT.out]
    exact ⟨_, _, rfl, GBTold.none_ _ _ _, hB6⟩
end
end Go.Proofs.YtfoegmjpfkmggaaGreatDoor

/- A ref is looked at: the grid's look, Read, Raw. Conditions: the grid is known. -/
namespace Go.Proofs.YtfoegmjpfkmggaaGreatDoor
open Go.RowKit
theorem Near.bytes {X : List Nat} {w w' : World} {A : Option Addr} {l : List UInt8} (h : Bytes w A l) (k : Near X w w') (hn : ∀ ad, A = some ad → ad.block ∉ X) : Bytes w' A l := fun hne => by
  obtain ⟨b, off, e, hc⟩ := h hne
  refine ⟨b, off, e, fun j v hv => ?_⟩
  have h1 := hc j v hv
  exact (k.cell (p := ⟨b, off + j, none⟩) (World.block_lt_of_cell? w _ h1) (hn ⟨b, off, none⟩ e)).trans h1
theorem Refs.near {X : List Nat} {w w' : World} {A : Option Addr} {l : List RefT} (h : Refs w A l) (k : Near X w w') (hn : ∀ ad, A = some ad → ad.block ∉ X) : Refs w' A l := fun hp => by
  obtain ⟨b, off, e, hlt, hc⟩ := h hp
  exact ⟨b, off, e, Nat.lt_of_lt_of_le hlt k.size, fun i hi => ⟨(k.cell (p := ⟨b, off + i * 2, none⟩) hlt (hn ⟨b, off, none⟩ e)).trans (hc i hi).1, (k.cell (p := ⟨b, off + i * 2 + 1, none⟩) hlt (hn ⟨b, off, none⟩ e)).trans (hc i hi).2⟩⟩
theorem GBTold.near {o : Option GBT} {raw : List UInt8} {w0 w w' : World} {v1 v2 : Value} {X : List Nat} (h : GBTold o raw w0 v1 v2 w) (k : Near X w w') (hX : ∀ x ∈ X, x < w0.heap.size) : GBTold o raw w0 v1 v2 w' := by
  obtain ⟨A, c, B, e, C, h1, h2, h3, h4, h5, h6, h7, h8, h9, h10⟩ := h
  refine ⟨A, c, B, e, C, h1, h2, h3.near k (fun ad e hx => by have := hX _ hx; have := h9 ad e; omega), Near.bytes h4 k (fun ad e hx => by have := hX _ hx; have := h10 ad e; omega), h5, h6, h7, fun hs => ?_, h9, h10⟩
  obtain ⟨g, e1, e2, e3⟩ := h8 hs
  exact ⟨g, e1, e2, e3.near k (fun hx => by have := hX _ hx; omega)⟩
theorem GBTold.base {o : Option GBT} {raw : List UInt8} {w0 w1 w : World} {v1 v2 : Value} (h : GBTold o raw w1 v1 v2 w) (hb : w0.heap.size ≤ w1.heap.size) : GBTold o raw w0 v1 v2 w := by
  obtain ⟨A, c, B, e, C, h1, h2, h3, h4, h5, h6, h7, h8, h9, h10⟩ := h
  refine ⟨A, c, B, e, C, h1, h2, h3, h4, h5, h6, h7, fun hs => ?_, fun ad e => Nat.le_trans hb (h9 ad e), fun ad e => Nat.le_trans hb (h10 ad e)⟩
  obtain ⟨g, e1, e2, e3⟩ := h8 hs
  exact ⟨g, e1, Nat.le_trans hb e2, e3⟩
theorem gbc_one (b : GBT) (A : Option Addr) (c : Nat) (B : Option Addr) (e : Nat) : (gbc b A c B e).all (·.oneCell') = true := by simp [gbc, Value.oneCell']
/-- What a look answers: the error's number, the block, the grid. -/
def glook (g : Grd) (d : Dsk) (f : Option Fus) (r : RefT) : Int × Option GBT × Grd :=
  if d.isOut f = true then (11, none, g) else if g.of r = false then (2, none, g) else match gthere d r with | some b => (0, some b, g) | none => (13, none, g.want r)
/-- What a look leaves: where it finds, nothing that was there changes. -/
def LPost (w : World) (q : GPl) (b : Bool) (g : Grd) (d : Dsk) (f : Option Fus) (w' : World) : Prop := GPost w q g d f w' ∧ (b = true → Below w.heap.size w w')
/-- The same, and the map stands where it stood. -/
structure LPostI (w : World) (q : GPl) (b : Bool) (g : Grd) (d : Dsk) (f : Option Fus) (w' : World) : Prop where
  post : GPost w q g d f w'
  bel : b = true → Below w.heap.size w w'
  gi : GPostI w q g d f w'
theorem GPostI.trans1 {w w1 w' : World} {q : GPl} {g : Grd} {d : Dsk} {f : Option Fus} (hB : Below w.heap.size w w1) (h : GPostI w1 q g d f w') : GPostI w q g d f w' := by
  obtain ⟨q', e, h1, h2, h3⟩ := h
  exact ⟨q', e, h1, (Near.below hB).trans h2, fun x hx => (h3 x hx).imp id fun k => Nat.le_trans hB.size k⟩
theorem GPostI.upd {w w1 w' : World} {q : GPl} {g : Grd} {d : Dsk} {f : Option Fus} {x : Nat} (h : GPostI w q g d f w1) (u : Upd x w1 w') (hx : w.heap.size ≤ x) (hx2 : ∀ q' : GPl, GridR w1 q' g d f → x ∉ q'.all) : GPostI w q g d f w' := by
  obtain ⟨q', e, h1, h2, h3⟩ := h
  exact ⟨q', e, h1.near (Near.upd u (List.mem_singleton_self _)) (fun y hy hm => hx2 q' h1 (List.mem_singleton.1 hm ▸ hy)), h2.new u hx, h3⟩
theorem GPostI.below {w w1 w' : World} {q : GPl} {g : Grd} {d : Dsk} {f : Option Fus} (h : GPostI w q g d f w1) (k : Below w1.heap.size w1 w') : GPostI w q g d f w' := by
  obtain ⟨q', e, h1, h2, h3⟩ := h
  exact ⟨q', e, h1.below k, h2.trans (Near.below k), h3⟩
theorem GPost.trans1 {w w1 w' : World} {q : GPl} {g : Grd} {d : Dsk} {f : Option Fus} (hB : Below w.heap.size w w1) (h : GPost w1 q g d f w') : GPost w q g d f w' := by
  obtain ⟨q', e1, e2, e3, h1, h2, h3⟩ := h
  exact ⟨q', e1, e2, e3, h1, (Near.below hB).trans h2, fun x hx => (h3 x hx).imp id fun k => Nat.le_trans hB.size k⟩
/-- Behind it a block that came later is written. -/
theorem GPost.upd {w w1 w' : World} {q : GPl} {g : Grd} {d : Dsk} {f : Option Fus} {x : Nat} (h : GPost w q g d f w1) (u : Upd x w1 w') (hx : w.heap.size ≤ x) (hx2 : ∀ q' : GPl, GridR w1 q' g d f → x ∉ q'.all) : GPost w q g d f w' := by
  obtain ⟨q', e1, e2, e3, h1, h2, h3⟩ := h
  exact ⟨q', e1, e2, e3, h1.near (Near.upd u (List.mem_singleton_self _)) (fun y hy hm => hx2 q' h1 (List.mem_singleton.1 hm ▸ hy)), h2.new u hx, h3⟩
/-- A block that holds a block of the grid's is none of a grid's own. -/
theorem GridR.offGB {w : World} {q : GPl} {g : Grd} {d : Dsk} {f : Option Fus} {x : Nat} {cs : Array Value} (h : GridR w q g d f) (hb : Blk w x 116 cs) : x ∉ q.all := by
  obtain ⟨wv, sp, h1, h2, h3⟩ := h.wn
  obtain ⟨es, c, hm, -⟩ := h.mp
  intro hx
  rcases GPl.mem.1 hx with e | e | e | e | e
  · exact hb.apart h2 (by decide) e
  · exact hb.apart h.st (by decide) e
  · exact hb.offMap hm e
  · obtain ⟨cs', hb'⟩ := ownBlk h3 (h1.trans e)
    exact hb.apart hb' (by decide) rfl
  · exact h.dk.off hb (by decide) (by decide) (by decide) e
section
variable {w : World} {q : GPl} {g : Grd} {d : Dsk} {f : Option Fus}
set_option maxRecDepth 100000 in
set_option maxHeartbeats 4000000 in
theorem glook_any (h : GridR w q g d f) (hlen : g.W.length ≤ 1099511627776) (r : RefT) :
    Calls Tryz.prog 98 #[.pointer (some ⟨q.gg, 0, none⟩), .agg #[.int .i64 r.1, .int .i64 r.2.1]] w fun e w' => ∃ v1 v2, e = .returned (.tuple #[v1, v2, .int .i64 (glook g d f r).1]) ∧ GBTold (glook g d f r).2.1 (gblk d r.1) w v1 v2 w' ∧ LPostI w q (glook g d f r).2.1.isSome (glook g d f r).2.2 d f w' := by
  have hz := zeroGBrun
  have hB := ((Below.refl w.heap.size w).alloc (Nat.le_refl _) (.cells #[.int .i64 r.1, .int .i64 r.2.1] 113)).alloc (by simp) (.cells #[.int .i64 0, .int .i64 0, .int .i64 0, .slice none 0 0, .slice none 0 0] 116)
  have hbr := (Blk.new w 113 #[.int .i64 r.1, .int .i64 r.2.1]).alloc (.cells #[.int .i64 0, .int .i64 0, .int .i64 0, .slice none 0 0, .slice none 0 0] 116)
  have hbz := Blk.new' (w.alloc (.cells #[.int .i64 r.1, .int .i64 r.2.1] 113)) 116 #[.int .i64 0, .int .i64 0, .int .i64 0, .slice none 0 0, .slice none 0 0] (n := w.heap.size + 1) (by simp)
  have H0 := Lib.hid (And.intro h (And.intro hB (And.intro hbr (And.intro hbz (And.intro (h.below hB) hlen)))))
  clear h hB hbr hbz hlen
  go_enter Tryz.func98, Tryz.ntmps98
  go_wp2_with fail
  generalize (w.alloc (.cells #[.int .i64 r.1, .int .i64 r.2.1] 113)).alloc (.cells #[.int .i64 0, .int .i64 0, .int .i64 0, .slice none 0 0, .slice none 0 0] 116) = w1 at H0 ⊢
  refine (gready_any H0.out.2.2.2.2.1).mono ?_
  rintro e w2 ⟨rfl, hw⟩
  obtain rfl := hw.symm
  clear hw
  by_cases hq : d.isOut f = true
  · have HL : Hid (glook g d f r = (11, none, g)) := Lib.hid (if_pos hq)
    rw [if_pos hq]
    have hbz := H0.out.2.2.2.1
    clear hq
    go_wp2_with (first
      | ((with_reducible show wpList _ _ _ ((⟨none, _, _, _, _, _⟩ : Oper) :: _) _ _); refine wpList_store_blk (o := ⟨none, _, _, _, _, _⟩) (hbz) (by rfl) _ _ _ (by rfl) (by rfl) (zeroGB) (by rfl) (sizeGB) (by rfl) (by rfl) (by exact zeroGB_one) ?_; intro w6 h6 hu6)
      | fail)
    refine bodyPost_ret (results_row_tmps (by rfl) _ _ (w.heap.size + 1) _ _ _ (by rfl) h6 Tryz.underlying116 (by rfl) sizeGB) rfl ?_
    rw [HL.out]
    exact ⟨_, _, rfl, GBTold.none_ _ _ _, GPost.same H0.out.1 (H0.out.2.1.upd hu6 (Nat.le_succ _)), (fun h => by cases h), GPostI.same H0.out.1 (H0.out.2.1.upd hu6 (Nat.le_succ _))⟩
  rw [if_neg hq]
  have HQ := Lib.hid (show d.isOut f = false by simpa using hq)
  have hbr := H0.out.2.2.1
  clear hq
  go_wp2_with (first
    | ((with_reducible show wpList _ _ _ ((⟨some 18, _, _, _, _, _⟩ : Oper) :: _) _ _); refine wpList_load_blk (o := ⟨some 18, _, _, _, _, _⟩) (hbr) (by rfl) _ _ (by rfl) (by rfl) _ Tryz.underlying113 (by rfl) (size_ref) (by rfl) ?_)
    | fail)
  refine (gof_any H0.out.2.2.2.2.1 r).mono ?_
  rintro e w2 ⟨rfl, hbx⟩
  have hB2 := H0.out.2.1.trans (hbx.mono H0.out.2.1.size)
  have H2 := Lib.hid (And.intro (H0.out.2.2.1.below hbx H0.out.2.2.1.lt) (And.intro (H0.out.2.2.2.1.below hbx H0.out.2.2.2.1.lt) (And.intro (H0.out.2.2.2.2.1.below hbx) hB2)))
  clear hbx hbr hB2
  by_cases ho : g.of r = true
  case neg =>
    have ho' : g.of r = false := by simpa using ho
    have HL : Hid (glook g d f r = (2, none, g)) := Lib.hid (by unfold glook; rw [if_neg (by rw [HQ.out]; simp), if_pos ho'])
    rw [ho']
    have hbz := H2.out.2.1
    clear ho ho'
    go_wp2_with (first
      | ((with_reducible show wpList _ _ _ ((⟨none, _, _, _, _, _⟩ : Oper) :: _) _ _); refine wpList_store_blk (o := ⟨none, _, _, _, _, _⟩) (hbz) (by rfl) _ _ _ (by rfl) (by rfl) (zeroGB) (by rfl) (sizeGB) (by rfl) (by rfl) (by exact zeroGB_one) ?_; intro w6 h6 hu6)
      | fail)
    refine bodyPost_ret (results_row_tmps (by rfl) _ _ (w.heap.size + 1) _ _ _ (by rfl) h6 Tryz.underlying116 (by rfl) sizeGB) rfl ?_
    rw [HL.out]
    exact ⟨_, _, rfl, GBTold.none_ _ _ _, GPost.same H0.out.1 (H2.out.2.2.2.upd hu6 (Nat.le_succ _)), (fun h => by cases h), GPostI.same H0.out.1 (H2.out.2.2.2.upd hu6 (Nat.le_succ _))⟩
  rw [ho]
  have hbr := H2.out.1
  have HO := Lib.hid ho
  clear ho
  go_wp2_with (first
    | ((with_reducible show wpList _ _ _ ((⟨some 24, _, _, _, _, _⟩ : Oper) :: _) _ _); refine wpList_load_blk (o := ⟨some 24, _, _, _, _, _⟩) (hbr) (by rfl) _ _ (by rfl) (by rfl) _ Tryz.underlying113 (by rfl) (size_ref) (by rfl) ?_)
    | fail)
  refine (gthere_any H2.out.2.2.1 HQ.out r HO.out).mono ?_
  rintro e w3 ⟨v1, v2, rfl, hT, hbx⟩
  have hsz : w.heap.size + 2 ≤ w2.heap.size := H2.out.2.1.lt
  have H3 := Lib.hid (And.intro (H2.out.1.below hbx H2.out.1.lt) (And.intro (H2.out.2.1.below hbx H2.out.2.1.lt) (And.intro (H2.out.2.2.1.below hbx) (And.intro (H2.out.2.2.2.trans (hbx.mono H2.out.2.2.2.size)) hsz))))
  have HT := Lib.hid hT
  obtain ⟨A, c, B, e, C, rfl, rfl, -⟩ := hT
  clear hbx hbr hsz
  have hT2 := HT.out
  cases hth : gthere d r with
  | some b =>
    have HL : Hid (glook g d f r = (0, some b, g)) := Lib.hid (by unfold glook; rw [if_neg (by rw [HQ.out]; simp), if_neg (by rw [HO.out]; simp), hth])
    rw [hth] at HT
    clear hth hT2
    simp only [Option.isSome_some, Option.getD_some, if_true]
    go_wp2_with (first
      | ((with_reducible show wpList _ _ _ ((⟨none, _, _, _, _, _⟩ : Oper) :: _) _ _); refine wpList_store_blk (o := ⟨none, _, _, _, _, _⟩) ((Blk.new w3 116 #[.int .i64 0, .int .i64 0, .int .i64 0, .slice none 0 0, .slice none 0 0])) (by rfl) _ _ _ (by rfl) (by rfl) (gbc b A c B e) (by rfl) (sizeGB) (by rfl) (by rfl) (gbc_one _ _ _ _ _) ?_; intro w4 h4 hu4; have hbx := ((Below.refl w3.heap.size w3).alloc (Nat.le_refl _) (.cells #[.int .i64 0, .int .i64 0, .int .i64 0, .slice none 0 0, .slice none 0 0] 116)).upd hu4 (Nat.le_refl _); have hk3 := H3.out.2.1.below hbx H3.out.2.1.lt; have hT4 := Lib.hid (And.intro (HT.out.below hbx) (H3.out.2.2.2.1.trans (hbx.mono H3.out.2.2.2.1.size))); clear hu4 hbx)
      | ((with_reducible show wpList _ _ _ ((⟨some 35, _, _, _, _, _⟩ : Oper) :: _) _ _); refine wpList_load_blk (o := ⟨some 35, _, _, _, _, _⟩) (h4) (by rfl) _ _ (by rfl) (by rfl) _ Tryz.underlying116 (by rfl) (sizeGB) (by rfl) ?_)
      | ((with_reducible show wpList _ _ _ ((⟨none, _, _, _, _, _⟩ : Oper) :: _) _ _); refine wpList_store_blk (o := ⟨none, _, _, _, _, _⟩) (hk3) (by rfl) _ _ _ (by rfl) (by rfl) (gbc b A c B e) (by rfl) (sizeGB) (by rfl) (by rfl) (gbc_one _ _ _ _ _) ?_; intro w6 h6 hu6)
      | fail)
    refine bodyPost_ret (results_row_tmps (by rfl) _ _ (w.heap.size + 1) _ _ _ (by rfl) h6 Tryz.underlying116 (by rfl) sizeGB) rfl ?_
    rw [HL.out]
    have k6 : Near [w.heap.size + 1] w4 w6 := Near.upd hu6 (List.mem_singleton_self _)
    refine ⟨_, _, rfl, (hT4.out.1.near k6 (fun x hx => by rw [List.mem_singleton.1 hx]; have := H3.out.2.2.2.2; omega)).base H2.out.2.2.2.size, GPost.same H0.out.1 (hT4.out.2.upd hu6 (Nat.le_succ _)), (fun _ => hT4.out.2.upd hu6 (Nat.le_succ _)), GPostI.same H0.out.1 (hT4.out.2.upd hu6 (Nat.le_succ _))⟩
  | none =>
    have HL : Hid (glook g d f r = (13, none, g.want r)) := Lib.hid (by unfold glook; rw [if_neg (by rw [HQ.out]; simp), if_neg (by rw [HO.out]; simp), hth])
    rw [hth] at HT
    clear hth hT2
    simp only [Option.isSome_none, Option.getD_none, Bool.false_eq_true, if_false]
    go_wp2_with (first
      | ((with_reducible show wpList _ _ _ ((⟨none, _, _, _, _, _⟩ : Oper) :: _) _ _); refine wpList_store_blk (o := ⟨none, _, _, _, _, _⟩) ((Blk.new w3 116 #[.int .i64 0, .int .i64 0, .int .i64 0, .slice none 0 0, .slice none 0 0])) (by rfl) _ _ _ (by rfl) (by rfl) (gbc GB.none_ A c B e) (by rfl) (sizeGB) (by rfl) (by rfl) (gbc_one _ _ _ _ _) ?_; intro w4 h4 hu4; have hbx := ((Below.refl w3.heap.size w3).alloc (Nat.le_refl _) (.cells #[.int .i64 0, .int .i64 0, .int .i64 0, .slice none 0 0, .slice none 0 0] 116)).upd hu4 (Nat.le_refl _); have hk1 := H3.out.1.below hbx H3.out.1.lt; have hk3 := H3.out.2.1.below hbx H3.out.2.1.lt; have hG4 := Lib.hid (And.intro (H3.out.2.2.1.below hbx) (H3.out.2.2.2.1.trans (hbx.mono H3.out.2.2.2.1.size))); clear hu4 hbx)
      | ((with_reducible show wpList _ _ _ ((⟨some 32, _, _, _, _, _⟩ : Oper) :: _) _ _); refine wpList_load_blk (o := ⟨some 32, _, _, _, _, _⟩) (hk1) (by rfl) _ _ (by rfl) (by rfl) _ Tryz.underlying113 (by rfl) (size_ref) (by rfl) ?_)
      | fail)
    refine (gwant_anyI hG4.out.1 H0.out.2.2.2.2.2 r).mono ?_
    rintro e w5 ⟨rfl, hP⟩
    have hoff := hG4.out.1.offGB hk3
    have hbz : Blk w5 (w.heap.size + 1) 116 #[.int .i64 0, .int .i64 0, .int .i64 0, .slice none 0 0, .slice none 0 0] := by
      obtain ⟨q', -, -, k, -⟩ := hP
      exact hk3.near k hoff
    have HP := Lib.hid (GPostI.trans1 hG4.out.2 hP)
    have hbz0 := Lib.hid hbz
    clear hP hoff hk1 hk3
    go_wp2_with (first
      | ((with_reducible show wpList _ _ _ ((⟨none, _, _, _, _, _⟩ : Oper) :: _) _ _); refine wpList_store_blk (o := ⟨none, _, _, _, _, _⟩) (hbz) (by rfl) _ _ _ (by rfl) (by rfl) (zeroGB) (by rfl) (sizeGB) (by rfl) (by rfl) (by exact zeroGB_one) ?_; intro w6 h6 hu6)
      | fail)
    refine bodyPost_ret (results_row_tmps (by rfl) _ _ (w.heap.size + 1) _ _ _ (by rfl) h6 Tryz.underlying116 (by rfl) sizeGB) rfl ?_
    rw [HL.out]
    exact ⟨_, _, rfl, GBTold.none_ _ _ _, HP.out.post.upd hu6 (Nat.le_succ _) (fun q' hq' => hq'.offGB hbz0.out), (fun h => by cases h), HP.out.upd hu6 (Nat.le_succ _) (fun q' hq' => hq'.offGB hbz0.out)⟩
end
end Go.Proofs.YtfoegmjpfkmggaaGreatDoor

/- A block is read, or its bytes: the grid's Read. Conditions: the grid is known. -/
namespace Go.Proofs.YtfoegmjpfkmggaaGreatDoor
open Go.RowKit
theorem GPost.below {w w1 w' : World} {q : GPl} {g : Grd} {d : Dsk} {f : Option Fus} (h : GPost w q g d f w1) (k : Below w1.heap.size w1 w') : GPost w q g d f w' := by
  obtain ⟨q', e1, e2, e3, h1, h2, h3⟩ := h
  exact ⟨q', e1, e2, e3, h1.below k, h2.trans (Near.below k), h3⟩
section
variable {w : World} {q : GPl} {g : Grd} {d : Dsk} {f : Option Fus}
set_option maxRecDepth 100000 in
set_option maxHeartbeats 4000000 in
theorem gread_any (h : GridR w q g d f) (hlen : g.W.length ≤ 1099511627776) (r : RefT) :
    Calls Tryz.prog 52 #[.pointer (some ⟨q.gg, 0, none⟩), .agg #[.int .i64 r.1, .int .i64 r.2.1]] w fun e w' => ∃ v1, e = .returned (.tuple #[v1, .int .i64 (glook g d f r).1]) ∧ (∃ v2, GBTold (glook g d f r).2.1 (gblk d r.1) w v1 v2 w') ∧ LPostI w q (glook g d f r).2.1.isSome (glook g d f r).2.2 d f w' := by
  have hz := zeroGBrun
  have hB := ((Below.refl w.heap.size w).alloc (Nat.le_refl _) (.cells #[.int .i64 r.1, .int .i64 r.2.1] 113)).alloc (by simp) (.cells #[.int .i64 0, .int .i64 0, .int .i64 0, .slice none 0 0, .slice none 0 0] 116)
  have hbr := (Blk.new w 113 #[.int .i64 r.1, .int .i64 r.2.1]).alloc (.cells #[.int .i64 0, .int .i64 0, .int .i64 0, .slice none 0 0, .slice none 0 0] 116)
  have hbz := Blk.new' (w.alloc (.cells #[.int .i64 r.1, .int .i64 r.2.1] 113)) 116 #[.int .i64 0, .int .i64 0, .int .i64 0, .slice none 0 0, .slice none 0 0] (n := w.heap.size + 1) (by simp)
  have H0 := Lib.hid (And.intro h (And.intro hB (And.intro (h.below hB) hlen)))
  clear h hB hlen
  go_enter Tryz.func52, Tryz.ntmps52
  go_wp2_with (first
    | ((with_reducible show wpList _ _ _ ((⟨some 11, _, _, _, _, _⟩ : Oper) :: _) _ _); refine wpList_load_blk (o := ⟨some 11, _, _, _, _, _⟩) (hbr) (by rfl) _ _ (by rfl) (by rfl) _ Tryz.underlying113 (by rfl) (size_ref) (by rfl) ?_)
    | fail)
  clear hbr
  generalize (w.alloc (.cells #[.int .i64 r.1, .int .i64 r.2.1] 113)).alloc (.cells #[.int .i64 0, .int .i64 0, .int .i64 0, .slice none 0 0, .slice none 0 0] 116) = w1 at H0 hbz ⊢
  refine (glook_any H0.out.2.2.1 H0.out.2.2.2 r).mono ?_
  rintro e w2 ⟨v1, v2, rfl, hT, hP⟩
  have hoff := H0.out.2.2.1.offGB hbz
  have hbz2 : Blk w2 (w.heap.size + 1) 116 #[.int .i64 0, .int .i64 0, .int .i64 0, .slice none 0 0, .slice none 0 0] := by
    obtain ⟨⟨q', -, -, -, -, k, -⟩, -⟩ := hP
    exact hbz.near k hoff
  have HLT := Lib.hid hbz.lt
  clear hoff hbz
  have hPP := Lib.hid (GPost.trans1 H0.out.2.1 hP.1)
  have hPI := Lib.hid (GPostI.trans1 H0.out.2.1 hP.3)
  have hPF := Lib.hid (fun h => H0.out.2.1.trans ((hP.2 h).mono H0.out.2.1.size))
  have hTT := Lib.hid hT
  obtain ⟨A, c, B, e, C, rfl, -⟩ := hT
  clear hP
  go_wp2_with (first
    | ((with_reducible show wpList _ _ _ ((⟨none, _, _, _, _, _⟩ : Oper) :: _) _ _); refine wpList_store_blk (o := ⟨none, _, _, _, _, _⟩) ((Blk.new w2 116 #[.int .i64 0, .int .i64 0, .int .i64 0, .slice none 0 0, .slice none 0 0])) (by rfl) _ _ _ (by rfl) (by rfl) (gbc ((glook g d f r).2.1.getD GB.none_) A c B e) (by rfl) (sizeGB) (by rfl) (by rfl) (gbc_one _ _ _ _ _) ?_; intro w4 h4 hu4; have hbx := ((Below.refl w2.heap.size w2).alloc (Nat.le_refl _) (.cells #[.int .i64 0, .int .i64 0, .int .i64 0, .slice none 0 0, .slice none 0 0] 116)).upd hu4 (Nat.le_refl _); have hk3 := hbz2.below hbx hbz2.lt; have hT4 := Lib.hid (And.intro (hTT.out.below hbx) (And.intro (hPP.out.below hbx) (And.intro (fun h => (hPF.out h).trans (hbx.mono (hPF.out h).size)) (hPI.out.below hbx)))); clear hu4 hbx)
    | ((with_reducible show wpList _ _ _ ((⟨some 16, _, _, _, _, _⟩ : Oper) :: _) _ _); refine wpList_load_blk (o := ⟨some 16, _, _, _, _, _⟩) (h4) (by rfl) _ _ (by rfl) (by rfl) _ Tryz.underlying116 (by rfl) (sizeGB) (by rfl) ?_)
    | ((with_reducible show wpList _ _ _ ((⟨none, _, _, _, _, _⟩ : Oper) :: _) _ _); refine wpList_store_blk (o := ⟨none, _, _, _, _, _⟩) (hk3) (by rfl) _ _ _ (by rfl) (by rfl) (gbc ((glook g d f r).2.1.getD GB.none_) A c B e) (by rfl) (sizeGB) (by rfl) (by rfl) (gbc_one _ _ _ _ _) ?_; intro w6 h6 hu6; have hk0 := Lib.hid hk3)
    | fail)
  have k6 : Near [w.heap.size + 1] w4 w6 := Near.upd hu6 (List.mem_singleton_self _)
  refine bodyPost_ret (results_row_tmp (by rfl) _ _ (w.heap.size + 1) _ _ _ (by rfl) h6 Tryz.underlying116 (by rfl) sizeGB) rfl ?_
  exact ⟨_, rfl, ⟨_, (hT4.out.1.near k6 (fun x hx => by rw [List.mem_singleton.1 hx]; exact HLT.out)).base H0.out.2.1.size⟩, hT4.out.2.1.upd hu6 (Nat.le_succ _) (fun q' hq' => hq'.offGB hk0.out), (fun h => (hT4.out.2.2.1 h).upd hu6 (Nat.le_succ _)), hT4.out.2.2.2.upd hu6 (Nat.le_succ _) (fun q' hq' => hq'.offGB hk0.out)⟩
end
end Go.Proofs.YtfoegmjpfkmggaaGreatDoor

/- A block is read, or its bytes: the grid's Raw. Conditions: the grid is known. -/
namespace Go.Proofs.YtfoegmjpfkmggaaGreatDoor
open Go.RowKit
section
variable {w : World} {q : GPl} {g : Grd} {d : Dsk} {f : Option Fus}
set_option maxRecDepth 100000 in
set_option maxHeartbeats 4000000 in
theorem graw_any (h : GridR w q g d f) (hlen : g.W.length ≤ 1099511627776) (r : RefT) :
    Calls Tryz.prog 54 #[.pointer (some ⟨q.gg, 0, none⟩), .agg #[.int .i64 r.1, .int .i64 r.2.1]] w fun e w' => ∃ v2, e = .returned (.tuple #[v2, .int .i64 (glook g d f r).1]) ∧ (∃ v1, GBTold (glook g d f r).2.1 (gblk d r.1) w v1 v2 w') ∧ LPost w q (glook g d f r).2.1.isSome (glook g d f r).2.2 d f w' := by
  have hz := zeroGBrun
  have hB := (Below.refl w.heap.size w).alloc (Nat.le_refl _) (.cells #[.int .i64 r.1, .int .i64 r.2.1] 113)
  have hbr := Blk.new w 113 #[.int .i64 r.1, .int .i64 r.2.1]
  have H0 := Lib.hid (And.intro h (And.intro hB (And.intro (h.below hB) hlen)))
  clear h hB hlen
  go_enter Tryz.func54, Tryz.ntmps54
  go_wp2_with (first
    | ((with_reducible show wpList _ _ _ ((⟨some 11, _, _, _, _, _⟩ : Oper) :: _) _ _); refine wpList_load_blk (o := ⟨some 11, _, _, _, _, _⟩) (hbr) (by rfl) _ _ (by rfl) (by rfl) _ Tryz.underlying113 (by rfl) (size_ref) (by rfl) ?_)
    | fail)
  clear hbr
  generalize w.alloc (.cells #[.int .i64 r.1, .int .i64 r.2.1] 113) = w1 at H0 ⊢
  refine (glook_any H0.out.2.2.1 H0.out.2.2.2 r).mono ?_
  rintro e w2 ⟨v1, v2, rfl, hT, hP⟩
  have hPP := Lib.hid (GPost.trans1 H0.out.2.1 hP.1)
  have hPF := Lib.hid (fun h => H0.out.2.1.trans ((hP.2 h).mono H0.out.2.1.size))
  have hTT := Lib.hid hT
  obtain ⟨A, c, B, e, C, rfl, -⟩ := hT
  clear hP
  go_wp2_with (first
    | ((with_reducible show wpList _ _ _ ((⟨none, _, _, _, _, _⟩ : Oper) :: _) _ _); refine wpList_store_blk (o := ⟨none, _, _, _, _, _⟩) ((Blk.new w2 116 #[.int .i64 0, .int .i64 0, .int .i64 0, .slice none 0 0, .slice none 0 0])) (by rfl) _ _ _ (by rfl) (by rfl) (gbc ((glook g d f r).2.1.getD GB.none_) A c B e) (by rfl) (sizeGB) (by rfl) (by rfl) (gbc_one _ _ _ _ _) ?_; intro w4 h4 hu4; have hbx := ((Below.refl w2.heap.size w2).alloc (Nat.le_refl _) (.cells #[.int .i64 0, .int .i64 0, .int .i64 0, .slice none 0 0, .slice none 0 0] 116)).upd hu4 (Nat.le_refl _); have hT4 := Lib.hid (And.intro (hTT.out.below hbx) (And.intro (hPP.out.below hbx) (fun h => (hPF.out h).trans (hbx.mono (hPF.out h).size)))); clear hu4 hbx)
    | fail)
  go_ret2
  exact ⟨_, rfl, ⟨_, hT4.out.1.base H0.out.2.1.size⟩, hT4.out.2.1, hT4.out.2.2⟩
end
end Go.Proofs.YtfoegmjpfkmggaaGreatDoor
