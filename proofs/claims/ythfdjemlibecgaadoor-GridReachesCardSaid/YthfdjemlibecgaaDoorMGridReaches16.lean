/- A block is let go, what was let go is settled; the set's bytes and counts; a flush. Conditions: the grid is known. -/
import Derived.Test.YthfdjemlibecgaaDoorMGridReaches15
import Derived.Laws.IdiomCopy
namespace Go.Proofs.YthfdjemlibecgaaDoor
open Go.RowKit
theorem Dsk.flush_N (d : Dsk) (f : Option Fus) : (d.flush f).2.1.N = d.N := by
  unfold Dsk.flush chg
  split
  · rfl
  split
  · rfl
  · split <;> rfl
/-- A grid's set is changed where it stands. -/
theorem GridR.setIn {w w' : World} {q : GPl} {g : Grd} {d : Dsk} {f : Option Fus} {L : List Nat} (h : GridR w q g d f) (hs : Blk w' q.gs 197 (setCells L)) (hu : Near [q.gs] w w') (hL : SetOk L) (hlen : L.length = g.n) : GridR w' q { g with L := L } d f := by
  have hap := h.apart
  obtain ⟨wv, sp, h1, h2, h3⟩ := h.wn
  exact ⟨h.dk.nearX hu (fun x hx hm => hap.s (List.mem_singleton.1 hm ▸ hx)), hs, h.mp.near hu (fun hm => hap.si (List.mem_singleton.1 hm).symm),
    ⟨wv, sp, h1, h2.near hu (fun hm => hap.gs (List.mem_singleton.1 hm)), OwnsC.nearO h3 hu (fun x hx hm => (hap.wo x (h1 ▸ hx)).2.1 (List.mem_singleton.1 hm))⟩, ⟨h.ok.h1, h.ok.h512, hlen, hL, h.ok.room, h.ok.nd⟩, h.ne⟩
section
variable {w : World} {q : GPl} {g : Grd} {d : Dsk} {f : Option Fus}
theorem GPost.setIn {L : List Nat} {w1 w' : World} (h0 : GridR w q g d f) (hB : Below w.heap.size w w1) (hs : Blk w' q.gs 197 (setCells L)) (hu : Upd q.gs w1 w') (hL : SetOk L) (hlen : L.length = g.n) : GPost w q { g with L := L } d f w' :=
  ⟨q, rfl, rfl, rfl, (h0.below hB).setIn hs (Near.upd hu (List.mem_singleton_self _)) hL hlen, (Near.below hB).trans (Near.upd hu (GPl.mem.2 (.inr (.inl rfl)))), fun _ hx => .inl hx⟩
set_option maxRecDepth 100000 in
theorem gsettle_any (h : GridR w q g d f) : Calls Tryd.prog 33 #[.pointer (some ⟨q.gg, 0, none⟩)] w fun e w' => e = .returned (.int .i64 (cnt g.L g.L.length : Nat)) ∧ GPost w q { g with L := setl g.L } d f w' := by
  obtain ⟨wv, hb⟩ := h.blk
  have d2 := hb.at_ 2 (v := .pointer (some ⟨q.gs, 0, none⟩)) rfl
  have hn := gnone_any h
  have hs := settle_any g.L h.ok.set (by have := h.ok.len; have := h.ok.h1; omega) q.gs w h.st
  have H0 := Lib.hid h
  clear h hb
  go_enter Tryd.func33, Tryd.ntmps33
  go_wp2_with fail
  refine hn.mono ?_
  rintro e w1 ⟨rfl, hw⟩
  obtain rfl := hw.symm
  clear hn hw
  go_wp2_with fail
  refine hs.mono ?_
  rintro e w2 ⟨rfl, hst, hu⟩
  have HP := Lib.hid (GPost.setIn H0.out (Below.refl _ _) hst hu H0.out.ok.set.setl ((setl_length _).trans H0.out.ok.len))
  clear hs hst hu
  go_wp2
  go_ret
  exact ⟨rfl, HP.out⟩
set_option maxRecDepth 100000 in
theorem gcounts_any (h : GridR w q g d f) : Calls Tryd.prog 59 #[.pointer (some ⟨q.gg, 0, none⟩)] w fun e w' => e = .returned (.tuple #[.int .i64 (cnts g.L 0 : Nat), .int .i64 (cnts g.L 1 : Nat), .int .i64 (cnts g.L 2 : Nat)]) ∧ Below w.heap.size w w' := by
  obtain ⟨wv, hb⟩ := h.blk
  have d2 := hb.at_ 2 (v := .pointer (some ⟨q.gs, 0, none⟩)) rfl
  have hn := gnone_any h
  have hs := counts_any g.L h.ok.set (by have := h.ok.len; have := h.ok.h1; omega) q.gs w h.st
  clear h hb
  go_enter Tryd.func59, Tryd.ntmps59
  go_wp2_with fail
  refine hn.mono ?_
  rintro e w1 ⟨rfl, hw⟩
  obtain rfl := hw.symm
  clear hn hw
  go_wp2_with fail
  refine hs.mono ?_
  rintro e w2 ⟨rfl, hB⟩
  have HB := Lib.hid hB
  clear hs hB
  go_wp2
  go_ret3
  exact ⟨rfl, HB.out⟩
set_option maxRecDepth 100000 in
theorem gfree_any (h : GridR w q g d f) : Calls Tryd.prog 60 #[.pointer (some ⟨q.gg, 0, none⟩)] w fun e w' => e = .returned (.slice (some ⟨w.heap.size, 0, none⟩) (2 + (g.L.length + 3) / 4) (2 + (g.L.length + 3) / 4)) ∧ Blk w' w.heap.size 5 ((enc g.L).map u8v).toArray ∧ Below w.heap.size w w' := by
  obtain ⟨wv, hb⟩ := h.blk
  have d2 := hb.at_ 2 (v := .pointer (some ⟨q.gs, 0, none⟩)) rfl
  have hn := gnone_any h
  have hs := bytes_any g.L h.ok.set (by have := h.ok.len; have := h.ok.h1; omega) q.gs w h.st
  clear h hb
  go_enter Tryd.func60, Tryd.ntmps60
  go_wp2_with fail
  refine hn.mono ?_
  rintro e w1 ⟨rfl, hw⟩
  obtain rfl := hw.symm
  clear hn hw
  go_wp2_with fail
  refine hs.mono ?_
  rintro e w2 ⟨rfl, hst, hB⟩
  have HB := Lib.hid (And.intro hst hB)
  clear hs hst hB
  go_wp2
  go_ret
  exact ⟨rfl, HB.out⟩
set_option maxRecDepth 100000 in
theorem gflush_any (h : GridR w q g d f) : Calls Tryd.prog 57 #[.pointer (some ⟨q.gg, 0, none⟩)] w fun e w' => e = .returned (.int .i64 (d.flush f).1) ∧ GPost w q g (d.flush f).2.1 (d.flush f).2.2 w' := by
  obtain ⟨wv, hb⟩ := h.blk
  have d0 := hb.at_ 0 (v := .pointer (some ⟨q.p.gd, 0, none⟩)) rfl
  have hn := gnone_any h
  have hs := flush_ok' w h.dk
  have H0 := Lib.hid h
  clear h hb
  go_enter Tryd.func57, Tryd.ntmps57
  go_wp2_with fail
  refine hn.mono ?_
  rintro e w1 ⟨rfl, hw⟩
  obtain rfl := hw.symm
  clear hn hw
  go_wp2_with fail
  refine hs.mono ?_
  rintro e w2 ⟨rfl, hdk, hN⟩
  have HP := Lib.hid (show GPost w q g (d.flush f).2.1 (d.flush f).2.2 w2 from ⟨q, rfl, rfl, rfl, H0.out.wrote hdk hN (Dsk.flush_N d f), hN.wider (fun x hx => GPl.mem.2 (.inr (.inr (.inr (.inr hx))))), fun _ hx => .inl hx⟩)
  clear hs hdk hN
  go_wp2
  go_ret
  exact ⟨rfl, HP.out⟩
set_option maxRecDepth 100000 in
theorem grelease_any (h : GridR w q g d f) (r : RefT) (hb1 : -9223372036854775808 ≤ r.1) (hb2 : r.1 ≤ 9223372036854775807) : Calls Tryd.prog 31 #[.pointer (some ⟨q.gg, 0, none⟩), .agg #[.int .i64 r.1, .int .i64 r.2.1]] w fun e w' => e = .returned (.int .i64 (turnCode g.L r.1 1)) ∧ GPost w q { g with L := turnL g.L r.1 1 2 } d f w' := by
  have hB := (Below.refl w.heap.size w).alloc (Nat.le_refl _) (.cells #[.int .i64 r.1, .int .i64 r.2.1] 23)
  have hbr := Blk.new w 23 #[.int .i64 r.1, .int .i64 r.2.1]
  have hn := gnone_any (h.below hB)
  have H0 := Lib.hid (And.intro h (And.intro hB (And.intro hbr (h.below hB))))
  have HR := Lib.hid (And.intro hb1 hb2)
  clear h hB hbr hb1 hb2
  go_enter Tryd.func31, Tryd.ntmps31
  go_wp2_with fail
  generalize (w.alloc (.cells #[.int .i64 r.1, .int .i64 r.2.1] 23)) = w1 at H0 hn ⊢
  refine hn.mono ?_
  rintro e w2 ⟨rfl, hw⟩
  obtain rfl := hw.symm
  clear hn hw
  go_wp2_with fail
  have hC0 : Near [q.gs] w1 w1.drew := (Near.refl _ _).drew
  have hG : Hid (∀ w', Near [q.gs] w1 w' → w'.cell? ⟨q.gg, 2, none⟩ = some (.pointer (some ⟨q.gs, 0, none⟩)) ∧ w'.cell? ⟨w.heap.size, 0, none⟩ = some (.int .i64 r.1)) := Lib.hid fun w' hw' => by
    obtain ⟨wv, hb⟩ := H0.out.2.2.2.blk
    have hap := H0.out.2.2.2.apart
    have hlt : q.gs < w.heap.size := H0.out.1.lt q.gs (GPl.mem.2 (.inr (.inl rfl)))
    exact ⟨(hb.near hw' (fun hm => hap.gs (List.mem_singleton.1 hm))).at_ 2 rfl, (H0.out.2.2.1.near hw' (fun hm => by have := List.mem_singleton.1 hm; omega)).at_ 0 rfl⟩
  refine wp_region_tree (Near [q.gs] w1) [] (PlanT.takes [0, 1, 2, 4] (PlanT.takes [3, 5] (.opt 6 (PlanT.takes [7] .done) .no))) (by kernel_rfl) (by kernel_rfl) (hC0) ?_
  refine wpTree_pure _ _ _ (by rfl) (by rfl) ?_
  dsimp only [List.filterMap, List.getElem?_cons_zero, List.getElem?_cons_succ]
  repeat (go_big_quiet_step (fail))
  refine wpQuiet_nil ?_
  refine wpTree_takeL _ _ _ (by rfl) (by rfl) (hC0) ?_
  dsimp only [List.filterMap, List.getElem?_cons_zero, List.getElem?_cons_succ]
  (refine wpQuiet_load_cell (fun w' hw' => (hG.out w' hw').1) (by rfl) _ _ (by rfl) (by rfl) _ Tryd.underlying92 (by rfl) ?_; simp only [Act.put, List.setIfInBounds_toArray, List.set_cons_zero, List.set_cons_succ])
  (refine wpQuiet_load_cell (fun w' hw' => (hG.out w' hw').2) (by rfl) _ _ (by rfl) (by rfl) _ Tryd.underlying3 (by rfl) ?_; simp only [Act.put, List.setIfInBounds_toArray, List.set_cons_zero, List.set_cons_succ])
  refine wpQuiet_nil ?_
  refine wpTree_one _ rfl ?_
  have hB1 : Below w1.heap.size w1 w1.drew := (Below.refl _ _).drew
  have hG1 := H0.out.2.2.2.below hB1
  have hs := release_any g.L hG1.ok.set (by have := hG1.ok.len; have := hG1.ok.h1; omega) q.gs r.1 HR.out.1 HR.out.2 w1.drew hG1.st
  go_wp2_with fail
  refine hs.mono ?_
  rintro e w2 ⟨rfl, hst, hu⟩
  have HP := Lib.hid (GPost.setIn H0.out.1 (H0.out.2.1.trans (hB1.mono H0.out.2.1.size)) hst hu (H0.out.1.ok.set.turn r.1 1 2 (by omega)) ((turnL_length _ _ _ _).trans H0.out.1.ok.len))
  have hC2 := hC0.trans (Near.upd hu (List.mem_singleton_self _))
  clear hs hst hu hG1 hG hC0
  go_wp2_with fail
  refine TreeQ.in_ hC2 ?_
  refine wpTree_pure _ _ _ (by rfl) (by rfl) ?_
  dsimp only [List.filterMap, List.getElem?_cons_zero, List.getElem?_cons_succ]
  repeat (go_big_quiet_step (fail))
  refine wpQuiet_nil ?_
  refine wpTree_done ?_
  go_wp2_with fail
  go_ret
  exact ⟨rfl, HP.out⟩
end
end Go.Proofs.YthfdjemlibecgaaDoor

/- A slice of elements of two cells is cut; one element is cleared. Plain facts over any program. No condition. -/
namespace Go
open Go.RowKit
theorem run_cut2 {P : Program} (w : World) (t e : TypeId) (ht : P.underlying t = some (.slice e)) (hsz : (P.info? e).map (·.size) = some 2) (A : Option Addr) (n c : Nat) (k : IntKind) (K : Nat) (hK : K ≤ n) (hc : c ≠ K) :
    (Instr.sliceAt t (.slice A n c) (some (.int k (K : Int))) none none).run P w = .ok (.slice (A.map (·.add (K * 2))) (n - K) (c - K)) w := by
  obtain ⟨i, hi, hs⟩ := Option.map_eq_some_iff.1 hsz
  have hsz' : (sizeOf e).run P w = .ok 2 w := by simp [sizeOf, typeInfo, hi, hs]
  have hb : (Instr.sliceBound (.int k (K : Int)) n .sliceB).run P w = .ok K w := by
    have := run_sliceBound (P := P) w k (K : Int) n .sliceB (by omega) (by omega)
    simpa using this
  simp [Instr.sliceAt, Instr.slice, run_underlying ht, Instr.sliceBounds, hb, hsz', hc]
theorem run_cutHi2 {P : Program} (w : World) (t e : TypeId) (ht : P.underlying t = some (.slice e)) (hsz : (P.info? e).map (·.size) = some 2) (g : Nat) (n c : Nat) (k : IntKind) (K : Nat) (hK : K ≤ c) :
    (Instr.sliceAt t (.slice (some ⟨g, 0, none⟩) n c) none (some (.int k (K : Int))) none).run P w = .ok (.slice (some ⟨g, 0, none⟩) K c) w := by
  obtain ⟨i, hi, hs⟩ := Option.map_eq_some_iff.1 hsz
  have hsz' : (sizeOf e).run P w = .ok 2 w := by simp [sizeOf, typeInfo, hi, hs]
  have hb : ∀ code, (Instr.sliceBound (.int k (K : Int)) c code).run P w = .ok K w := by
    intro code
    have := run_sliceBound (P := P) w k (K : Int) c code (by omega) (by omega)
    simpa using this
  have ha : (⟨g, 0, none⟩ : Addr).add 0 = ⟨g, 0, none⟩ := rfl
  simp [Instr.sliceAt, Instr.slice, run_underlying ht, Instr.sliceBounds, hb, hsz', ha]
theorem wpList_clear_one {P : Program} {w : World} {Q : Exit → Act → World → Prop} {ops : Array Oper} {rest : List Oper} {o : Oper} {a : Act} (hgd : o.guard = none) (t e : TypeId) (x : Operand) (ho : o.op = .call { callee := .builtin .clear, args := #[x], argTypes := #[t] })
    (ht : P.underlying t = some (.slice e)) (z : Value) (hz : ∀ w, (zeroValue e).run P w = .ok z w) (vs : List Value) (hvs : (Builtin.zeroCells z.cells 1).toList = vs) (g k c : Nat) (hx : a.eval x = .slice (some ⟨g, k, none⟩) 1 c)
    (t' : TypeId) (cs : Array Value) (hb : Blk w g t' cs) (hk : k + vs.length ≤ cs.size) (h1 : ∀ v ∈ vs, v.oneCell' = true)
    (h : ∀ w', Blk w' g t' (setAll cs k vs) → Upd g w w' → wpList P ops Q rest (a.put o.dst (.tuple #[])) w') : wpList P ops Q (o :: rest) a w := by
  have hst := run_storeCells_cells (P := P) g k vs 0 w (fun j hj => by rw [Nat.add_zero, hb.cell, Array.getElem?_eq_getElem (by omega)]; rfl) (fun j hj => hb.frozen _) h1
  rw [Nat.add_zero] at hst
  have hr : (Builtin.clear_ #[t] o.type #[.slice (some ⟨g, k, none⟩) 1 c]).run P w = .ok (.tuple #[]) (w.setCells g k vs) := by
    simp [Builtin.clear_, run_underlying ht, hz, hvs, hst]
  refine wpList_plain hgd fun _ hK => ?_
  unfold Oper.wp execOp
  simp only [ho, resolve, invoke, builtin, Sem.run_bind, Sem.run_pure, Result.andThen_ok, List.map_toArray, List.map_cons, List.map_nil, hx, hr]
  exact hK _ _ (h _ (Blk.setCells vs k w cs hb) (Upd.setCells vs k w (Upd.refl g w)))
theorem wpList_cut2 {P : Program} {w : World} {Q : Exit → Act → World → Prop} {ops : Array Oper} {rest : List Oper} {o : Oper} {a : Act} (hgd : o.guard = none) (t : TypeId) (x lo : Operand) (ho : o.op = .slice t x (some lo) none none) (e : TypeId)
    (ht : P.underlying t = some (.slice e)) (hsz : (P.info? e).map (·.size) = some 2) (g n c : Nat) (k : IntKind) (K : Nat) (hx : a.eval x = .slice (some ⟨g, 0, none⟩) n c) (hlo : a.eval lo = .int k (K : Int)) (hK : K ≤ n) (hc : c ≠ K)
    (h : wpList P ops Q rest (a.put o.dst (.slice (some ⟨g, K * 2, none⟩) (n - K) (c - K))) w) : wpList P ops Q (o :: rest) a w := by
  have ha : (⟨g, 0, none⟩ : Addr).add (K * 2) = ⟨g, K * 2, none⟩ := by unfold Addr.add; split <;> simp_all
  have hr := run_cut2 (P := P) w t e ht hsz (some ⟨g, 0, none⟩) n c k K hK hc
  rw [Option.map_some, ha] at hr
  exact wpList_run _ hgd (by unfold execOp; simp only [ho, hx, hlo, Option.map_some, Option.map_none, hr, Sem.run_bind, Result.andThen_ok, Sem.run_pure]) h
theorem wpList_cutHi2 {P : Program} {w : World} {Q : Exit → Act → World → Prop} {ops : Array Oper} {rest : List Oper} {o : Oper} {a : Act} (hgd : o.guard = none) (t : TypeId) (x hi : Operand) (ho : o.op = .slice t x none (some hi) none) (e : TypeId)
    (ht : P.underlying t = some (.slice e)) (hsz : (P.info? e).map (·.size) = some 2) (g n c : Nat) (k : IntKind) (K : Nat) (hx : a.eval x = .slice (some ⟨g, 0, none⟩) n c) (hhi : a.eval hi = .int k (K : Int)) (hK : K ≤ c)
    (h : wpList P ops Q rest (a.put o.dst (.slice (some ⟨g, 0, none⟩) K c)) w) : wpList P ops Q (o :: rest) a w :=
  wpList_run _ hgd (by unfold execOp; simp only [ho, hx, hhi, Option.map_some, Option.map_none, run_cutHi2 (P := P) w t e ht hsz g n c k K hK, Sem.run_bind, Result.andThen_ok, Sem.run_pure]) h
end Go

/- A ref is dropped from a list: slices.DeleteFunc with the grid's closure. Conditions: the list can be read. -/
namespace Go.Proofs.YthfdjemlibecgaaDoor
open Go.RowKit
set_option maxRecDepth 100000 in
theorem isref_any (x r : RefT) (gb : Nat) (w : World) (h : Blk w gb 23 #[.int .i64 r.1, .int .i64 r.2.1]) :
    Calls Tryd.prog 87 #[.agg #[.int .i64 x.1, .int .i64 x.2.1], .pointer (some ⟨gb, 0, none⟩)] w fun e w' => e = .returned (.bool (decide (x = r))) ∧ Below w.heap.size w w' := by
  have hB := (Below.refl w.heap.size w).alloc (Nat.le_refl _) (.cells #[.int .i64 x.1, .int .i64 x.2.1] 23)
  have hbx := Blk.new w 23 #[.int .i64 x.1, .int .i64 x.2.1]
  have hbr := h.below hB h.lt
  have HB := Lib.hid hB
  clear h hB
  obtain ⟨x1, x2, u⟩ := x
  obtain ⟨r1, r2, u'⟩ := r
  have he : ((x1 == r1) && (x2 == r2)) = decide ((x1, x2, u) = (r1, r2, u')) := by
    rw [Bool.eq_iff_iff]; simp
  have HE := Lib.hid he
  clear he
  go_enter Tryd.func87, Tryd.ntmps87
  go_wp2_with (first
    | ((with_reducible show wpList _ _ _ ((⟨some 4, _, _, _, _, _⟩ : Oper) :: _) _ _); refine wpList_load_blk (o := ⟨some 4, _, _, _, _, _⟩) (hbx) (by rfl) _ _ (by rfl) (by rfl) _ Tryd.underlying23 (by rfl) (size_ref) (by rfl) ?_)
    | ((with_reducible show wpList _ _ _ ((⟨some 5, _, _, _, _, _⟩ : Oper) :: _) _ _); refine wpList_load_blk (o := ⟨some 5, _, _, _, _, _⟩) (hbr) (by rfl) _ _ (by rfl) (by rfl) _ Tryd.underlying23 (by rfl) (size_ref) (by rfl) ?_)
    | ((with_reducible show wpList _ _ _ ((⟨some 6, _, _, _, _, _⟩ : Oper) :: _) _ _); refine wpList_run (o := ⟨some 6, _, _, _, _, _⟩) _ (by rfl) (exec_eql_ref _ _ _ _ (by rfl) x1 x2 r1 r2 (by rfl) (by rfl)) ?_; rw [HE.out])
    | fail)
  go_ret
  exact ⟨rfl, HB.out⟩
def IdxRel (w : World) (l : List RefT) (r : RefT) (v : Value) (wr : World) : Prop := ∃ j : Nat, j ≤ l.length ∧ v = .int .i64 (j : Int) ∧ r ∉ l.take j ∧ Below w.heap.size w wr
theorem notMem_take {l : List RefT} {r : RefT} {j : Nat} (h : r ∉ l.take j) (hj : j < l.length) (hne : l[j] ≠ r) : r ∉ l.take (j + 1) := by
  rw [List.take_succ_eq_append_getElem hj, List.mem_append]
  rintro (h1 | h1)
  · exact h h1
  · exact hne (List.mem_singleton.1 h1).symm
theorem idxOf_at {l : List RefT} {r : RefT} {j : Nat} (h : r ∉ l.take j) (hj : j < l.length) (he : l[j] = r) : r ∈ l ∧ l.idxOf r = j := by
  refine ⟨he ▸ List.getElem_mem hj, ?_⟩
  have hs : l = l.take j ++ l[j] :: l.drop (j + 1) := by rw [← List.drop_eq_getElem_cons hj, List.take_append_drop]
  rw [hs, List.idxOf_append, if_neg h, he, List.idxOf_cons_self, List.length_take]
  omega
def idxR (l : List RefT) (r : RefT) : Int := if r ∈ l then (l.idxOf r : Int) else -1
def isRef (gb : Nat) : Value := .func (.func 87) #[] #[.pointer (some ⟨gb, 0, none⟩)]
set_option maxRecDepth 100000 in
set_option maxHeartbeats 2000000 in
theorem indexRef_any (A : Option Addr) (n c : Nat) (l : List RefT) (r : RefT) (gb : Nat) (w : World) (hn : n = l.length) (hl : l.length ≤ 1099511627776) (hr : Refs w A l) (h : Blk w gb 23 #[.int .i64 r.1, .int .i64 r.2.1]) :
    Calls Tryd.prog 136 #[.slice A n c, isRef gb] w fun e w' => e = .returned (.int .i64 (idxR l r)) ∧ Below w.heap.size w w' := by
  unfold isRef
  have H0 := Lib.hid (And.intro hn (And.intro hl (And.intro hr h)))
  have hn5 : n ≤ 1099511627776 := by omega
  clear hn hl hr h
  go_enter Tryd.func136, Tryd.ntmps136
  go_wp2
  go_loopw [8] (fun v wr => IdxRel w l r v wr) (fun v _ => n - (intOf v).toNat)
  case atStart => exact ⟨0, by omega, rfl, by simp, Below.refl _ _⟩
  case round =>
    obtain ⟨j, hj, rfl, hnm, hB⟩ := hrel
    rw [← H0.out.1] at hj
    have HK := Lib.hid (And.intro hnm hB)
    clear hnm
    by_cases hlt : j < n
    · have hr1 := H0.out.2.2.1.below hB
      obtain ⟨b1, o1, rfl, _, hc1⟩ := hr1 (by rw [← H0.out.1]; omega)
      have hil : j < l.length := by rw [← H0.out.1]; exact hlt
      obtain ⟨d1, d2⟩ := hc1 j hil
      obtain ⟨x, hx⟩ : ∃ x : RefT, x = l[j] := ⟨_, rfl⟩
      rw [← hx] at d1 d2
      have HX := Lib.hid hx
      have hir := isref_any x r gb wr (H0.out.2.2.2.below hB H0.out.2.2.2.lt)
      clear hx hc1 hr1 hB
      go_wp2_with fail
      refine hir.mono ?_
      rintro e w2 ⟨rfl, hbx⟩
      have HB2 := Lib.hid (HK.out.2.trans (hbx.mono HK.out.2.size))
      clear hir hbx d1 d2
      by_cases hxr : x = r
      · have kt := decide_eq_true hxr
        have hid := idxOf_at HK.out.1 hil (HX.out.symm.trans hxr)
        have HI := Lib.hid hid
        clear hxr hid
        go_wp2
        go_ret
        exact ⟨by unfold idxR; rw [if_pos HI.out.1, HI.out.2]; rfl, HB2.out⟩
      · have kt := decide_eq_false hxr
        have HI := Lib.hid (notMem_take HK.out.1 hil (HX.out ▸ hxr))
        clear hxr
        go_wp2
        go_roundw
        case rel => exact ⟨j + 1, by have := H0.out.1; omega, by go_num, HI.out, HB2.out⟩
        case measure => simp [intOf]; omega
    · obtain rfl : j = n := by omega
      have hnr : Hid (r ∉ l) := Lib.hid (by
        have := HK.out.1
        rwa [H0.out.1, List.take_length] at this)
      clear hB
      go_wp2
      go_ret
      exact ⟨by unfold idxR; rw [if_neg hnr.out]; rfl, HK.out.2⟩
/-- The list while it is moved: i0 stood first, k were moved. -/
def mvd (W : List RefT) (i k : Nat) : List RefT := W.take i ++ ((W.drop (i + 1)).take k ++ W.drop (i + k))
theorem mvd_zero (W : List RefT) (i : Nat) : mvd W i 0 = W := by unfold mvd; simp
theorem mvd_get (W : List RefT) {i k : Nat} (h : i + k < W.length) (m : Nat) : (mvd W i k)[m]? = if m < i then W[m]? else if m < i + k then W[m + 1]? else W[m]? := by
  have e1 : (W.take i).length = i := by rw [List.length_take]; omega
  have e2 : ((W.drop (i + 1)).take k).length = k := by rw [List.length_take, List.length_drop]; omega
  unfold mvd
  rw [List.getElem?_append, List.getElem?_append, e1, e2]
  by_cases h1 : m < i
  · rw [if_pos h1, if_pos h1, List.getElem?_take, if_pos h1]
  · rw [if_neg h1, if_neg h1]
    by_cases h2 : m < i + k
    · rw [if_pos (by omega), if_pos h2, List.getElem?_take, if_pos (by omega), List.getElem?_drop]
      congr 1; omega
    · rw [if_neg (by omega), if_neg h2, List.getElem?_drop]
      congr 1; omega
theorem mvd_length (W : List RefT) {i k : Nat} (h : i + k < W.length) : (mvd W i k).length = W.length := by
  unfold mvd
  simp only [List.length_append, List.length_take, List.length_drop]; omega
theorem mvd_at (W : List RefT) {i k j : Nat} (h : i + k < W.length) (hj : i + k ≤ j) : (mvd W i k)[j]? = W[j]? := by
  rw [mvd_get W h, if_neg (by omega), if_neg (by omega)]
theorem mvd_step (W : List RefT) {i k : Nat} (h : i + k + 1 < W.length) (x : RefT) (hx : W[i + k + 1]? = some x) : (mvd W i k).set (i + k) x = mvd W i (k + 1) := by
  apply List.ext_getElem?
  intro m
  have hl := mvd_length W (i := i) (k := k) (by omega)
  rw [mvd_get W (by omega)]
  by_cases hm : m = i + k
  · subst hm
    rw [List.getElem?_set_self (by omega), if_neg (by omega), if_pos (by omega), hx]
  · rw [List.getElem?_set_ne (by omega), mvd_get W (by omega)]
    by_cases h1 : m < i
    · rw [if_pos h1, if_pos h1]
    · rw [if_neg h1, if_neg h1]
      by_cases h2 : m < i + k
      · rw [if_pos h2, if_pos (by omega)]
      · rw [if_neg h2, if_neg (by omega)]
theorem mvd_end (W : List RefT) {i : Nat} (h : i < W.length) : ∃ x, mvd W i (W.length - i - 1) = (W.take i ++ W.drop (i + 1)) ++ [x] := by
  refine ⟨W[W.length - 1], ?_⟩
  have e : i + (W.length - i - 1) = W.length - 1 := by omega
  have e2 : W.drop (W.length - 1) = [W[W.length - 1]] := by
    rw [List.drop_eq_getElem_cons (by omega), List.drop_of_length_le (by omega)]
  have e3 : (W.drop (i + 1)).take (W.length - i - 1) = W.drop (i + 1) := List.take_of_length_le (by rw [List.length_drop]; omega)
  unfold mvd
  rw [e3, e, e2, List.append_assoc]
theorem erase_at {W : List RefT} {r : RefT} (_h : r ∈ W) : W.erase r = W.take (W.idxOf r) ++ W.drop (W.idxOf r + 1) := by
  rw [List.erase_eq_eraseIdx_of_idxOf (i := W.idxOf r) rfl, List.eraseIdx_eq_take_drop_succ]
theorem refCells_app (a b : List RefT) : refCells (a ++ b) = refCells a ++ refCells b := by unfold refCells; simp
end Go.Proofs.YthfdjemlibecgaaDoor

/- A ref is dropped from an own list: slices.DeleteFunc with the grid's closure. Conditions: the list is an own row, each ref once. -/
namespace Go.Proofs.YthfdjemlibecgaaDoor
open Go.RowKit
theorem refCells_set (x : RefT) : ∀ (X : List RefT) (sp : List Value) (m : Nat), m < X.length → ((refCells X ++ sp).set (m * 2) (.int .i64 x.1)).set (m * 2 + 1) (.int .i64 x.2.1) = refCells (X.set m x) ++ sp
  | [], _, _, h => absurd h (by simp)
  | y :: X, sp, 0, _ => by simp [refCells]
  | y :: X, sp, m + 1, h => by
    have ih := refCells_set x X sp m (by simpa using h)
    have e : ∀ z : RefT, ∀ Z : List RefT, refCells (z :: Z) = .int .i64 z.1 :: .int .i64 z.2.1 :: refCells Z := fun z Z => by simp [refCells]
    rw [List.set_cons_succ, e, e]
    rw [show (m + 1) * 2 + 1 = (m * 2 + 1) + 1 + 1 by omega, show (m + 1) * 2 = m * 2 + 1 + 1 by omega]
    simp only [List.cons_append, List.set_cons_succ]
    rw [ih]
theorem refCells_setAll (x : RefT) (X : List RefT) (sp : List Value) (m : Nat) (h : m < X.length) : setAll (refCells X ++ sp).toArray (m * 2) [.int .i64 x.1, .int .i64 x.2.1] = (refCells (X.set m x) ++ sp).toArray := by
  rw [← refCells_set x X sp m h]
  simp [setAll]
def DropPost (W : List RefT) (r : RefT) (v : Value) (w : World) (e : Ending) (w' : World) : Prop :=
  ∃ v' sp', e = .returned v' ∧ OwnsC 23 2 w' 0 v' (W.erase r).length (refCells (W.erase r)) sp' ∧ v'.ownBlock = v.ownBlock ∧ Near v.ownBlock.toList w w'
/-- Ahead of each round: how many were moved. -/
def DelRel (w : World) (W : List RefT) (i g : Nat) (sp : List Value) (v5 v6 : Value) (wr : World) : Prop :=
  ∃ k : Nat, i + k < W.length ∧ v5 = .int .i64 ((i + k : Nat) : Int) ∧ v6 = .int .i64 ((i + k + 1 : Nat) : Int) ∧ Blk wr g 23 (refCells (mvd W i k) ++ sp).toArray ∧ Near [g] w wr
set_option maxRecDepth 100000 in
set_option maxHeartbeats 4000000 in
theorem dropRef_any (v : Value) (W : List RefT) (sp : List Value) (r : RefT) (gb : Nat) (w : World) (hl : W.length ≤ 1099511627776) (hnd : W.Nodup) (ho : OwnsC 23 2 w 0 v W.length (refCells W) sp) (h : Blk w gb 23 #[.int .i64 r.1, .int .i64 r.2.1]) (hne : v.ownBlock ≠ some gb) :
    Calls Tryd.prog 86 #[v, isRef gb] w (DropPost W r v w) := by
  obtain ⟨B, c, rfl, hlc, hcm, hrd, -⟩ := OwnsC.reads ho
  have hix := indexRef_any B W.length c W r gb w rfl hl (Refs.of hrd) h
  by_cases hm : r ∈ W
  case neg =>
    have hi : idxR W r = -1 := if_neg hm
    rw [hi] at hix
    have HO := Lib.hid ho
    have HE := Lib.hid (List.erase_of_not_mem hm)
    clear hi hm ho hrd h hlc hcm hne
    go_enter Tryd.func86, Tryd.ntmps86
    go_wp2_with fail
    refine hix.mono ?_
    rintro e w1 ⟨rfl, hb⟩
    have HB := Lib.hid hb
    clear hix hb
    go_wp2
    go_ret
    refine ⟨_, sp, rfl, ?_, rfl, Near.below HB.out⟩
    rw [HE.out]
    exact HO.out.ownBelow HB.out
  rcases ho with ⟨h1, h2, -⟩ | ⟨g, cap, hv, -, hg, hgc, hgm, -, hsp⟩
  · rw [List.eq_nil_of_length_eq_zero h2] at hm; exact absurd hm (by simp)
  injection hv with hB hn hc
  subst hB hc
  have hi : idxR W r = (W.idxOf r : Nat) := if_pos hm
  rw [hi] at hix
  have hlt : W.idxOf r < W.length := List.idxOf_lt_length_of_mem hm
  have hat : W[W.idxOf r]? = some r := by rw [List.getElem?_eq_getElem hlt, List.getElem_idxOf]
  have HE := Lib.hid (erase_at hm)
  have HW := Lib.hid (And.intro hl (And.intro hnd (And.intro hgc (And.intro hgm (And.intro hsp (And.intro hlt hat))))))
  have H0 := Lib.hid (And.intro hg (And.intro h (show gb ≠ g from fun e => hne (by rw [e]; rfl))))
  clear hi hm hrd h hne hlc hcm hnd hgc hgm hsp hg hat
  unfold isRef at hix ⊢
  generalize W.idxOf r = i at hix HE HW hlt ⊢
  have kn : ((i : Int) == -1) = false := beq_eq_false_iff_ne.2 (by omega)
  go_enter Tryd.func86, Tryd.ntmps86
  go_wp2_with fail
  refine hix.mono ?_
  rintro e w1 ⟨rfl, hb⟩
  have H1 := Lib.hid (And.intro (H0.out.1.below hb H0.out.1.lt) (And.intro (H0.out.2.1.below hb H0.out.2.1.lt) (Near.below (X := [g]) hb)))
  clear hix hb
  go_wp2_with fail
  go_loopw [5, 6] (fun v5 v6 wr => DelRel w W i g sp v5 v6 wr) (fun _ v _ => W.length - (intOf v).toNat)
  case atStart => exact ⟨0, hlt, by go_num, by go_num, by rw [mvd_zero]; exact H1.out.1, H1.out.2.2⟩
  case round =>
    obtain ⟨k, hk, rfl, rfl, hbg, hN⟩ := hrel
    have HK := Lib.hid (And.intro hbg hN)
    clear hbg hN kn
    by_cases hlt2 : i + k + 1 < W.length
    · obtain ⟨x, hx⟩ : ∃ x, W[i + k + 1]? = some x := ⟨_, List.getElem?_eq_getElem hlt2⟩
      have hml := mvd_length W (i := i) (k := k) hk
      have hxm : (mvd W i k)[i + k + 1]? = some x := (mvd_at W hk (by omega)).trans hx
      have hxl : i + k + 1 < (mvd W i k).length := by omega
      have hx' : (mvd W i k)[i + k + 1] = x := by rw [List.getElem?_eq_getElem hxl] at hxm; exact Option.some.inj hxm
      have hc := refCells_at (mvd W i k) (i + k + 1) hxl
      rw [hx'] at hc
      have hc1 : ∀ (u : Nat) (z : Value), (refCells (mvd W i k))[u]? = some z → wr.cell? ⟨g, u, none⟩ = some z := fun u z hz => HK.out.1.at_ u (by rw [List.getElem?_toArray, List.getElem?_append_left (by rcases Nat.lt_or_ge u (refCells (mvd W i k)).length with h | h; exact h; rw [List.getElem?_eq_none h] at hz; cases hz), hz])
      have d1 := hc1 _ _ hc.1
      have d2 := hc1 _ _ hc.2
      have hxr : x ≠ r := fun e => by
        have := (List.getElem?_inj (i := i) (j := i + k + 1) hlt HW.out.2.1).1 (HW.out.2.2.2.2.2.2.trans (e ▸ hx.symm))
        omega
      have kt := decide_eq_false hxr
      have HX := Lib.hid (And.intro hx (And.intro hxr hml))
      clear hx hxm hxl hx' hc hc1 hxr hml
      have hb2 := (Below.refl wr.heap.size wr).alloc (Nat.le_refl _) (.cells #[.int .i64 x.1, .int .i64 x.2.1] 23)
      have hbx2 := Blk.new wr 23 #[.int .i64 x.1, .int .i64 x.2.1]
      have hgb := H0.out.2.1.near HK.out.2 (fun hm => H0.out.2.2 (List.mem_singleton.1 hm))
      have hir := isref_any x r gb _ (hgb.below hb2 hgb.lt)
      have H2 := Lib.hid (And.intro hb2 hbx2)
      clear hb2 hbx2 hgb
      go_wp2_with fail
      refine hir.mono ?_
      rintro e w3 ⟨rfl, hbx⟩
      have hbx3 := H2.out.2.below hbx H2.out.2.lt
      have hb3 := H2.out.1.trans (hbx.mono H2.out.1.size)
      have hg3 := HK.out.1.below hb3 HK.out.1.lt
      have H3 := Lib.hid hb3
      have hsz : (i + k) * 2 + 2 ≤ (refCells (mvd W i k) ++ sp).toArray.size := by
        have := refCells_length (mvd W i k)
        have := HX.out.2.2
        simp only [List.size_toArray, List.length_append]; omega
      clear hir hbx hb3 d1 d2
      go_wp2_with (first
        | ((with_reducible show wpList _ _ _ ((⟨some 32, _, _, _, _, _⟩ : Oper) :: _) _ _); refine wpList_load_blk (o := ⟨some 32, _, _, _, _, _⟩) (hbx3) (by rfl) _ _ (by rfl) (by rfl) _ Tryd.underlying23 (by rfl) (size_ref) (by rfl) ?_)
        | ((with_reducible show wpList _ _ _ ((⟨none, _, _, _, _, _⟩ : Oper) :: _) _ _); refine wpList_store_in (o := ⟨none, _, _, _, _, _⟩) hg3 (by rfl) _ _ _ (by rfl) ((i + k) * 2) (by rfl) #[.int .i64 x.1, .int .i64 x.2.1] (by rfl) size_ref (by rfl) hsz (by simp [Value.oneCell']) ?_; intro w4 hg4 hu4; rw [refCells_setAll x (mvd W i k) sp (i + k) (by have := HX.out.2.2; omega), mvd_step W hlt2 x HX.out.1] at hg4; have H4 := Lib.hid (And.intro hg4 ((HK.out.2.trans (Near.below H3.out)).trans (Near.upd hu4 (List.mem_singleton_self _)))); clear hg4 hu4 hsz)
        | fail)
      go_roundw
      case rel => exact ⟨k + 1, by omega, by go_num, by go_num, H4.out⟩
      case measure => simp [intOf]; omega
    · obtain rfl : k = W.length - i - 1 := by omega
      obtain ⟨y, hy⟩ := mvd_end W hlt
      rw [← HE.out] at hy
      have hlen : i + (W.length - i - 1) = W.length - 1 := by omega
      have hel : (W.erase r).length = W.length - 1 := by
        rw [HE.out, List.length_append, List.length_take, List.length_drop]; omega
      have hbg := HK.out.1
      rw [hy] at hbg
      have hsz : (W.length - 1) * 2 + 2 ≤ (refCells (W.erase r ++ [y]) ++ sp).toArray.size := by
        have := refCells_length (W.erase r ++ [y])
        simp only [List.size_toArray, List.length_append, List.length_singleton] at this ⊢; omega
      have hset : setAll (refCells (W.erase r ++ [y]) ++ sp).toArray ((W.length - 1) * 2) [.int .i64 0, .int .i64 0] = (refCells (W.erase r) ++ (refCells [(0, 0, ())] ++ sp)).toArray := by
        have h := refCells_setAll (0, 0, ()) (W.erase r ++ [y]) sp (W.length - 1) (by rw [List.length_append, hel, List.length_singleton]; omega)
        rw [show (W.erase r ++ [y]).set (W.length - 1) (0, 0, ()) = W.erase r ++ [(0, 0, ())] by rw [List.set_append_right _ _ (by omega), hel]; simp, refCells_app (W.erase r) [(0, 0, ())], List.append_assoc] at h
        exact h
      have HS := Lib.hid (And.intro hel (And.intro hset (And.intro HK.out.2 hlt)))
      have hgc := HW.out.2.2.1
      have kn2 : decide (((i + (W.length - i - 1) + 1 : Nat) : Int) < (W.length : Int)) = false := decide_eq_false (by omega)
      have hzr := zeroRefrun
      have hzc : (Builtin.zeroCells (Value.agg #[.int .i64 0, .int .i64 0]).cells 1).toList = [.int .i64 0, .int .i64 0] := by kernel_rfl
      have hsb : (Tryd.prog.info? 23).map (·.size) = some 2 := size_ref
      clear hy hel hset
      rw [hlen] at kn2 ⊢
      have hW1 : W.length - (W.length - 1) = 1 := by omega
      go_wp2_with (first
        | ((with_reducible show wpList _ _ _ ((⟨some 38, _, _, _, _, _⟩ : Oper) :: _) _ _); refine wpList_cut2 (o := ⟨some 38, _, _, _, _, _⟩) (by rfl) _ _ _ (by rfl) 23 Tryd.underlying29 hsb g W.length c .i64 (W.length - 1) (by rfl) (by rfl) (by omega) (by omega) ?_; rw [hW1])
        | ((with_reducible show wpList _ _ _ ((⟨none, _, _, _, _, _⟩ : Oper) :: _) _ _); refine wpList_clear_one (o := ⟨none, _, _, _, _, _⟩) (by rfl) 29 23 _ (by rfl) Tryd.underlying29 (.agg #[.int .i64 0, .int .i64 0]) hzr [.int .i64 0, .int .i64 0] hzc g ((W.length - 1) * 2) _ (by rfl) _ _ hbg hsz (by simp [Value.oneCell']) ?_; intro w4 hg4 hu4; rw [HS.out.2.1] at hg4; have H4 := Lib.hid (And.intro hg4 (HS.out.2.2.1.trans (Near.upd hu4 (List.mem_singleton_self _)))); clear hg4 hu4)
        | ((with_reducible show wpList _ _ _ ((⟨some 41, _, _, _, _, _⟩ : Oper) :: _) _ _); refine wpList_cutHi2 (o := ⟨some 41, _, _, _, _, _⟩) (by rfl) _ _ _ (by rfl) 23 Tryd.underlying29 hsb g W.length c .i64 (W.length - 1) (by rfl) (by rfl) (by omega) ?_)
        | fail)
      go_ret
      refine ⟨_, refCells [(0, 0, ())] ++ sp, rfl, .inr ⟨g, c, ?_, Nat.zero_le _, H4.out.1, ?_, HW.out.2.2.2.1, refCells_length _, ?_⟩, rfl, H4.out.2⟩
      · rw [HS.out.1]; rfl
      · rw [HS.out.1]; omega
      · rw [HS.out.1, List.length_append, refCells_length, HW.out.2.2.2.2.1, List.length_singleton]; omega
end Go.Proofs.YthfdjemlibecgaaDoor

/- A block is put where it stood: the grid's Install. Conditions: the grid is known; the bytes can be read, and lie in none of the disk's blocks. -/
namespace Go.Proofs.YthfdjemlibecgaaDoor
open Go.RowKit
/-- What it answers: the error's number, the grid, the disk, its fuse. -/
def ginst (g : Grd) (d : Dsk) (f : Option Fus) (r : RefT) (raw : List UInt8) : Int × Grd × Dsk × Option Fus :=
  if d.isOut f = true then (11, g, d, f)
  else if g.of r = false then (2, g, d, f)
  else if (GB.read raw).1 ≠ 0 then ((GB.read raw).1, g, d, f)
  else if (GB.read raw).2.2.1 ≠ r then (2, g, d, f)
  else if (d.write f (gplace r.1) raw).1 ≠ 0 then ((d.write f (gplace r.1) raw).1, g, (d.write f (gplace r.1) raw).2)
  else (0, { g with W := g.W.erase r }, (d.write f (gplace r.1) raw).2)
theorem GB.read_len {raw : List UInt8} (h : (GB.read raw).1 = 0) : raw.length = 1024 := by
  unfold GB.read at h
  split at h
  · exact absurd h (by simp)
  · rename_i h1; omega
section
variable {w : World} {q : GPl} {g : Grd} {d : Dsk} {f : Option Fus}
set_option maxRecDepth 100000 in
set_option maxHeartbeats 8000000 in
theorem ginstall_any (h : GridR w q g d f) (hlen : g.W.length ≤ 1099511627776) (r : RefT) (A : Option Addr) (n c : Nat) (raw : List UInt8) (hn : n = raw.length) (hc : n ≤ c) (hc2 : c ≤ 9223372036854775807) (hb : Bytes w A raw) (hA : ∀ ad, A = some ad → ad.block ∉ q.p.all q.gf) :
    Calls Tryd.prog 28 #[.pointer (some ⟨q.gg, 0, none⟩), .agg #[.int .i64 r.1, .int .i64 r.2.1], .slice A n c] w fun e w' => e = .returned (.int .i64 (ginst g d f r raw).1) ∧
      GPost w q (ginst g d f r raw).2.1 (ginst g d f r raw).2.2.1 (ginst g d f r raw).2.2.2 w' := by
  have hB := (Below.refl w.heap.size w).alloc (Nat.le_refl _) (.cells #[.int .i64 r.1, .int .i64 r.2.1] 23)
  have hbr := Blk.new w 23 #[.int .i64 r.1, .int .i64 r.2.1]
  have HW := Lib.hid (And.intro h (And.intro hb (And.intro hA (And.intro hlen (And.intro hn (And.intro hc hc2))))))
  have H1 := Lib.hid (And.intro hB hbr)
  clear h hb hA hlen hn hc hc2 hB hbr
  go_enter Tryd.func28, Tryd.ntmps28
  go_wp2_with fail
  generalize w.alloc (.cells #[.int .i64 r.1, .int .i64 r.2.1] 23) = w1 at H1 ⊢
  refine (gready_any (HW.out.1.below H1.out.1)).mono ?_
  rintro e w1' ⟨rfl, hw⟩
  obtain rfl := hw.symm
  clear hw
  by_cases hq : d.isOut f = true
  · have HL : Hid (ginst g d f r raw = (11, g, d, f)) := Lib.hid (if_pos hq)
    rw [if_pos hq]
    clear hq
    go_wp2
    go_ret
    rw [HL.out]
    exact ⟨rfl, GPost.same HW.out.1 H1.out.1⟩
  rw [if_neg hq]
  have HQ := Lib.hid (show d.isOut f = false by simpa using hq)
  have hbr := H1.out.2
  clear hq
  go_wp2_with (first
    | ((with_reducible show wpList _ _ _ ((⟨some 17, _, _, _, _, _⟩ : Oper) :: _) _ _); refine wpList_load_blk (o := ⟨some 17, _, _, _, _, _⟩) (hbr) (by rfl) _ _ (by rfl) (by rfl) _ Tryd.underlying23 (by rfl) (size_ref) (by rfl) ?_)
    | fail)
  refine (gof_any (HW.out.1.below H1.out.1) r).mono ?_
  rintro e w2 ⟨rfl, hbx⟩
  have H2 := Lib.hid (And.intro (H1.out.1.trans (hbx.mono H1.out.1.size)) (H1.out.2.below hbx H1.out.2.lt))
  clear hbx hbr H1
  by_cases ho : g.of r = true
  case neg =>
    have ho' : g.of r = false := by simpa using ho
    have HL : Hid (ginst g d f r raw = (2, g, d, f)) := Lib.hid (by unfold ginst; rw [if_neg (by rw [HQ.out]; simp), if_pos ho'])
    rw [ho']
    clear ho ho'
    go_wp2
    go_ret
    rw [HL.out]
    exact ⟨rfl, GPost.same HW.out.1 H2.out.1⟩
  rw [ho]
  have HO := Lib.hid ho
  clear ho
  go_wp2_with fail
  refine (gbRead_any A n c raw HW.out.2.2.2.2.1 HW.out.2.2.2.2.2.1 HW.out.2.2.2.2.2.2 w2 (Bytes.below HW.out.2.1 H2.out.1)).mono ?_
  rintro e w3 ⟨A2, c2, B2, d2, rfl, -, -, -, -, -, hbx, -, -⟩
  have H3 := Lib.hid (And.intro (H2.out.1.trans (hbx.mono H2.out.1.size)) (H2.out.2.below hbx H2.out.2.lt))
  clear hbx H2
  by_cases hc0 : (GB.read raw).1 = 0
  case neg =>
    have HL : Hid (ginst g d f r raw = ((GB.read raw).1, g, d, f)) := Lib.hid (by unfold ginst; rw [if_neg (by rw [HQ.out]; simp), if_neg (by rw [HO.out]; simp), if_pos hc0])
    generalize (GB.read raw).1 = code at hc0 HL ⊢
    have kn := decide_eq_false hc0
    generalize (GB.read raw).2 = b
    go_wp2_with (first
      | ((with_reducible show wpList _ _ _ ((⟨none, _, _, _, _, _⟩ : Oper) :: _) _ _); refine wpList_store_blk (o := ⟨none, _, _, _, _, _⟩) ((Blk.new w3 46 #[.int .i64 0, .int .i64 0, .int .i64 0, .slice none 0 0, .slice none 0 0])) (by rfl) _ _ _ (by rfl) (by rfl) (gbc b A2 c2 B2 d2) (by rfl) (sizeGB) (by rfl) (by rfl) (gbc_one _ _ _ _ _) ?_; intro w4 h4 hu4; have hbx := ((Below.refl w3.heap.size w3).alloc (Nat.le_refl _) (.cells #[.int .i64 0, .int .i64 0, .int .i64 0, .slice none 0 0, .slice none 0 0] 46)).upd hu4 (Nat.le_refl _); have H4 := Lib.hid (H3.out.1.trans (hbx.mono H3.out.1.size)); clear hu4 hbx h4)
      | fail)
    go_ret
    rw [HL.out]
    exact ⟨rfl, GPost.same HW.out.1 H4.out⟩
  have HR := Lib.hid hc0
  have HLEN := Lib.hid (GB.read_len hc0)
  rw [hc0]
  obtain ⟨b, hbq⟩ : ∃ b, b = (GB.read raw).2 := ⟨_, rfl⟩
  rw [← hbq]
  have HBQ := Lib.hid hbq
  have hz := zeroGBrun
  obtain ⟨b0, ⟨b1, b2, bu⟩, b3, b4, bv⟩ := b
  clear hc0 hbq
  by_cases hbe : (b1, b2, bu) = r
  case neg =>
    have HL : Hid (ginst g d f r raw = (2, g, d, f)) := Lib.hid (by unfold ginst; rw [if_neg (by rw [HQ.out]; simp), if_neg (by rw [HO.out]; simp), if_neg (by rw [HR.out]; simp), if_pos (by rw [← HBQ.out]; exact hbe)])
    have HN : Hid ((!((b1 == r.1) && (b2 == r.2.1))) = true) := Lib.hid (by
      rw [Bool.not_eq_true', Bool.and_eq_false_iff]
      rcases Classical.em (b1 = r.1) with e1 | e1
      · rcases Classical.em (b2 = r.2.1) with e2 | e2
        · exact absurd (by rw [e1, e2]) hbe
        · exact .inr (beq_eq_false_iff_ne.2 e2)
      · exact .inl (beq_eq_false_iff_ne.2 e1))
    clear hbe
    go_wp2_with (first
      | ((with_reducible show wpList _ _ _ ((⟨none, _, _, _, _, _⟩ : Oper) :: _) _ _); refine wpList_store_blk (o := ⟨none, _, _, _, _, _⟩) ((Blk.new w3 46 #[.int .i64 0, .int .i64 0, .int .i64 0, .slice none 0 0, .slice none 0 0])) (by rfl) _ _ _ (by rfl) (by rfl) (#[.int .i64 b0, .int .i64 b1, .int .i64 b2, .slice A2 b3.length c2, .slice B2 b4.length d2]) (by rfl) (sizeGB) (by rfl) (by rfl) (by simp [Value.oneCell']) ?_; intro w4 h4 hu4; have hbx := ((Below.refl w3.heap.size w3).alloc (Nat.le_refl _) (.cells #[.int .i64 0, .int .i64 0, .int .i64 0, .slice none 0 0, .slice none 0 0] 46)).upd hu4 (Nat.le_refl _); have hbr4 := H3.out.2.below hbx H3.out.2.lt; have H4 := Lib.hid (And.intro (H3.out.1.trans (hbx.mono H3.out.1.size)) hbr4); clear hu4 hbx)
      | ((with_reducible show wpList _ _ _ ((⟨some 29, _, _, _, _, _⟩ : Oper) :: _) _ _); refine wpList_load_mid (o := ⟨some 29, _, _, _, _, _⟩) (range2 (b := w3.heap.size) (off := 1) (u := .int .i64 b1) (v := .int .i64 b2) (h4.at_ 1 (v := .int .i64 b1) rfl) (h4.at_ 2 (v := .int .i64 b2) rfl)) (by rfl) _ _ (by rfl) (by rfl) _ Tryd.underlying23 (by rfl) size_ref (by rfl) ?_)
      | ((with_reducible show wpList _ _ _ ((⟨some 30, _, _, _, _, _⟩ : Oper) :: _) _ _); refine wpList_load_blk (o := ⟨some 30, _, _, _, _, _⟩) (hbr4) (by rfl) _ _ (by rfl) (by rfl) _ Tryd.underlying23 (by rfl) (size_ref) (by rfl) ?_)
      | ((with_reducible show wpList _ _ _ ((⟨some 31, _, _, _, _, _⟩ : Oper) :: _) _ _); refine wpList_run (o := ⟨some 31, _, _, _, _, _⟩) _ (by rfl) (exec_neq_ref _ _ _ _ (by rfl) b1 b2 r.1 r.2.1 (by rfl) (by rfl)) ?_; rw [HN.out]; clear hbr4 h4)
      | fail)
    go_ret
    rw [HL.out]
    exact ⟨rfl, GPost.same HW.out.1 H4.out.1⟩
  have HN : Hid ((!((b1 == r.1) && (b2 == r.2.1))) = false) := Lib.hid (by rw [← hbe]; simp)
  have HBE : Hid ((GB.read raw).2.2.1 = r) := Lib.hid (by rw [← HBQ.out]; exact hbe)
  have hr1 := Grd.of_spec HO.out
  clear hbe
  go_wp2_with (first
    | ((with_reducible show wpList _ _ _ ((⟨none, _, _, _, _, _⟩ : Oper) :: _) _ _); refine wpList_store_blk (o := ⟨none, _, _, _, _, _⟩) ((Blk.new w3 46 #[.int .i64 0, .int .i64 0, .int .i64 0, .slice none 0 0, .slice none 0 0])) (by rfl) _ _ _ (by rfl) (by rfl) (#[.int .i64 b0, .int .i64 b1, .int .i64 b2, .slice A2 b3.length c2, .slice B2 b4.length d2]) (by rfl) (sizeGB) (by rfl) (by rfl) (by simp [Value.oneCell']) ?_; intro w4 h4 hu4; have hbx := ((Below.refl w3.heap.size w3).alloc (Nat.le_refl _) (.cells #[.int .i64 0, .int .i64 0, .int .i64 0, .slice none 0 0, .slice none 0 0] 46)).upd hu4 (Nat.le_refl _); have hbr4 := H3.out.2.below hbx H3.out.2.lt; have H4 := Lib.hid (And.intro (H3.out.1.trans (hbx.mono H3.out.1.size)) hbr4); clear hu4 hbx)
    | ((with_reducible show wpList _ _ _ ((⟨some 29, _, _, _, _, _⟩ : Oper) :: _) _ _); refine wpList_load_mid (o := ⟨some 29, _, _, _, _, _⟩) (range2 (b := w3.heap.size) (off := 1) (u := .int .i64 b1) (v := .int .i64 b2) (h4.at_ 1 (v := .int .i64 b1) rfl) (h4.at_ 2 (v := .int .i64 b2) rfl)) (by rfl) _ _ (by rfl) (by rfl) _ Tryd.underlying23 (by rfl) size_ref (by rfl) ?_)
    | ((with_reducible show wpList _ _ _ ((⟨some 30, _, _, _, _, _⟩ : Oper) :: _) _ _); refine wpList_load_blk (o := ⟨some 30, _, _, _, _, _⟩) (hbr4) (by rfl) _ _ (by rfl) (by rfl) _ Tryd.underlying23 (by rfl) (size_ref) (by rfl) ?_)
    | ((with_reducible show wpList _ _ _ ((⟨some 31, _, _, _, _, _⟩ : Oper) :: _) _ _); refine wpList_run (o := ⟨some 31, _, _, _, _, _⟩) _ (by rfl) (exec_neq_ref _ _ _ _ (by rfl) b1 b2 r.1 r.2.1 (by rfl) (by rfl)) ?_; rw [HN.out]; clear hbr4 h4)
    | fail)
  simp only [Act.put, List.setIfInBounds_toArray, List.set_cons_zero, List.set_cons_succ]
  clear H3
  have HG := Lib.hid (HW.out.1.below H4.out.1)
  have hap := Lib.hid HW.out.1.apart
  have hN0 : Near (q.p.all q.gf) w4 w4.drew := (Near.refl _ _).drew
  have hof : ∀ x, w.heap.size ≤ x → x ∉ q.p.all q.gf := fun x hx hm => by have h2 := HW.out.1.dk.lt x hm; omega
  have hG : Hid (∀ w', Near (q.p.all q.gf) w4 w' → w'.cell? ⟨q.gg, 0, none⟩ = some (.pointer (some ⟨q.p.gd, 0, none⟩)) ∧ w'.cell? ⟨w.heap.size, 0, none⟩ = some (.int .i64 r.1)) := Lib.hid fun w' hw' => by
    obtain ⟨wv, hb⟩ := HG.out.blk
    exact ⟨(hb.near hw' hap.out.g).at_ 0 rfl, (H4.out.2.near hw' (hof _ (Nat.le_refl _))).at_ 0 rfl⟩
  refine wp_region_tree (Near (q.p.all q.gf) w4) [] (PlanT.takes [0, 1, 2, 4, 7] (PlanT.takes [3, 5] (.opt 6 (.opt 8 (PlanT.takes [9] .done) .no) .no))) (by kernel_rfl) (by kernel_rfl) (hN0) ?_
  refine wpTree_pure _ _ _ (by rfl) (by rfl) ?_
  dsimp only [List.filterMap, List.getElem?_cons_zero, List.getElem?_cons_succ]
  repeat (go_big_quiet_step (fail))
  refine wpQuiet_nil ?_
  refine wpTree_takeL _ _ _ (by rfl) (by rfl) (hN0) ?_
  dsimp only [List.filterMap, List.getElem?_cons_zero, List.getElem?_cons_succ]
  (refine wpQuiet_load_cell (fun w' hw' => (hG.out w' hw').1) (by rfl) _ _ (by rfl) (by rfl) _ Tryd.underlying41 (by rfl) ?_; simp only [Act.put, List.setIfInBounds_toArray, List.set_cons_zero, List.set_cons_succ])
  (refine wpQuiet_load_cell (fun w' hw' => (hG.out w' hw').2) (by rfl) _ _ (by rfl) (by rfl) _ Tryd.underlying3 (by rfl) ?_; simp only [Act.put, List.setIfInBounds_toArray, List.set_cons_zero, List.set_cons_succ])
  refine wpQuiet_nil ?_
  refine wpTree_one _ rfl ?_
  have hnn := HW.out.1.ok.h512
  go_wp2_with fail
  refine (gplace_any r.1 hr1.1 (by omega) _).mono ?_
  rintro e w5 ⟨rfl, hw5⟩
  have hB5 : Below w4.heap.size w4 w5 := by rw [hw5]; exact (Below.refl _ _).drew
  have hN5 : Near (q.p.all q.gf) w4 w5 := by rw [hw5]; exact hN0
  clear hw5 hN0 hnn hr1
  go_wp2_with fail
  refine TreeQ.in_ hN5 ?_
  refine wpTree_one _ rfl ?_
  go_wp2_with fail
  have hWb := H4.out.1.trans (hB5.mono H4.out.1.size)
  have hwr := write_ok' (gplace r.1) n c A raw w5 HW.out.2.2.2.2.1 (Bytes.below HW.out.2.1 hWb) HW.out.2.2.1 (by rw [← HW.out.2.2.2.2.1]; exact HW.out.2.2.2.2.2.1) (by rw [HLEN.out]; omega) (HW.out.1.below hWb).dk
  refine hwr.mono ?_
  rintro e w6 ⟨rfl, hdk, hn6⟩
  have hN6 := hN5.trans hn6
  have hNN := Dsk.write_N d f (gplace r.1) raw
  have HL0 : ginst g d f r raw = if (d.write f (gplace r.1) raw).1 ≠ 0 then ((d.write f (gplace r.1) raw).1, g, (d.write f (gplace r.1) raw).2) else (0, { g with W := g.W.erase r }, (d.write f (gplace r.1) raw).2) := by
    unfold ginst; rw [if_neg (by rw [HQ.out]; simp), if_neg (by rw [HO.out]; simp), if_neg (by rw [HR.out]; simp), if_neg (by rw [HBE.out]; simp)]
  generalize d.write f (gplace r.1) raw = X at hdk hNN HL0 ⊢
  obtain ⟨c0, d2', f2⟩ := X
  simp only at hdk hNN HL0 ⊢
  have H6 := Lib.hid (And.intro (HG.out.wrote hdk hN6 hNN) (And.intro (H4.out.2.near hN6 (hof _ (Nat.le_refl _))) (((Near.below H4.out.1 : Near (q.p.all q.gf) w w4).trans hN6).wider (Y := q.all) (fun x hx => GPl.mem.2 (.inr (.inr (.inr (.inr hx)))))))) 
  have hC6 := Lib.hid hN6
  have HL0 := Lib.hid HL0
  clear hdk hn6 hN6 hNN hB5 hN5 hWb hwr hof hG HG
  go_wp2_with fail
  refine TreeQ.in_ hC6.out ?_
  refine wpTree_pure _ _ _ (by rfl) (by rfl) ?_
  dsimp only [List.filterMap, List.getElem?_cons_zero, List.getElem?_cons_succ]
  repeat (go_big_quiet_step (fail))
  refine wpQuiet_nil ?_
  refine wpTree_done ?_
  by_cases he : c0 = 0
  case neg =>
    have HL := Lib.hid (HL0.out.trans (if_pos he))
    have kn := decide_eq_false he
    go_wp2
    go_ret
    rw [HL.out]
    exact ⟨rfl, ⟨q, rfl, rfl, rfl, H6.out.1, H6.out.2.2, fun _ hx => .inl hx⟩⟩
  subst he
  have HL1 := Lib.hid (HL0.out.trans (if_neg (by simp)))
  clear HL0 hC6
  go_wp2_with fail
  have hN0 : Near [q.gi] w6 w6.drew := (Near.refl _ _).drew
  have hlt := HW.out.1.lt
  have hgi : q.gi < w.heap.size := hlt _ (GPl.mem.2 (.inr (.inr (.inl rfl))))
  have hG : Hid (∀ w', Near [q.gi] w6 w' → w'.cell? ⟨q.gg, 3, none⟩ = some (.map (some q.gi)) ∧ Blk w' w.heap.size 23 #[.int .i64 r.1, .int .i64 r.2.1]) := Lib.hid fun w' hw' => by
    obtain ⟨wv, hb⟩ := H6.out.1.blk
    exact ⟨(hb.near hw' (fun hm => hap.out.gi (List.mem_singleton.1 hm))).at_ 3 rfl, H6.out.2.1.near hw' (fun hm => by have := List.mem_singleton.1 hm; omega)⟩
  refine wp_region_tree (Near [q.gi] w6) [] (PlanT.takes [0, 1, 2] (PlanT.takes [3, 4] (.opt 5 .done .no))) (by kernel_rfl) (by kernel_rfl) (hN0) ?_
  refine wpTree_pure _ _ _ (by rfl) (by rfl) ?_
  dsimp only [List.filterMap, List.getElem?_cons_zero, List.getElem?_cons_succ]
  repeat (go_big_quiet_step (fail))
  refine wpQuiet_nil ?_
  refine wpTree_takeL _ _ _ (by rfl) (by rfl) (hN0) ?_
  dsimp only [List.filterMap, List.getElem?_cons_zero, List.getElem?_cons_succ]
  (refine wpQuiet_load_cell (fun w' hw' => (hG.out w' hw').1) (by rfl) _ _ (by rfl) (by rfl) _ Tryd.underlying93 (by rfl) ?_; simp only [Act.put, List.setIfInBounds_toArray, List.set_cons_zero, List.set_cons_succ])
  (refine wpQuiet_load_blk (fun w' hw' => (hG.out w' hw').2) (by rfl) _ _ (by rfl) (by rfl) _ Tryd.underlying23 (by rfl) (size_ref) (by rfl) ?_; simp only [Act.put, List.setIfInBounds_toArray, List.set_cons_zero, List.set_cons_succ])
  refine wpQuiet_nil ?_
  refine wpTree_one _ rfl ?_
  have hmp := H6.out.1.mp.near (X := []) (w' := w6.drew) (Near.refl _ _).drew List.not_mem_nil
  go_wp2_with (first
    | ((with_reducible show wpList _ _ _ ((⟨none, _, _, _, _, _⟩ : Oper) :: _) _ _); refine wpList_delete_k (o := ⟨none, _, _, _, _, _⟩) (by rfl) refKey _ 23 4 _ _ (by rfl) Tryd.underlying93 hmp r trivial (by rfl) (by rfl) ?_; intro w7 hm7 hu7; rw [wantM_del g.W r] at hm7)
    | fail)
  have k7 : Near [q.gi] w6 w7 := hN0.trans (Near.upd hu7 (List.mem_singleton_self _))
  refine TreeQ.in_ k7 ?_
  refine wpTree_done ?_
  have hR7 := (hG.out _ k7).2
  clear hN0 hu7 hmp hG
  obtain ⟨wv, sp, h1, h2, h3⟩ := H6.out.1.wn
  have h2 := h2.near k7 (fun hm => hap.out.gi (List.mem_singleton.1 hm))
  have h3 := OwnsC.nearO h3 k7 (fun x hx hm => (hap.out.wo x (h1 ▸ hx)).2.2 (List.mem_singleton.1 hm))
  obtain ⟨B, cw, rfl, -, -, -, -⟩ := OwnsC.reads h3
  have d4 := h2.at_ 4 (v := .slice B g.W.length cw) rfl
  have hdr := dropRef_any (.slice B g.W.length cw) g.W sp r w.heap.size w7 HW.out.2.2.2.1 H6.out.1.ok.nd h3 hR7 (by rw [h1]; intro e; have h5 := hlt _ (GPl.mem.2 (.inr (.inr (.inr (.inl e))))); omega)
  unfold isRef at hdr
  have H7 := Lib.hid (And.intro h1 (And.intro h2 (And.intro hm7 k7)))
  have HLT := Lib.hid hlt
  clear h1 h2 h3 hm7 k7 hR7 hlt
  go_wp2_with fail
  refine hdr.mono ?_
  rintro e w8 ⟨v', sp', rfl, ho8, hv8, k8⟩
  rw [H7.out.1] at hv8 k8
  have hgg : q.gg ∉ q.gw.toList := by rw [Option.mem_toList]; exact fun e => (hap.out.wo _ e).1 rfl
  have hgi8 : q.gi ∉ q.gw.toList := by rw [Option.mem_toList]; exact fun e => (hap.out.wo _ e).2.2 rfl
  have hgs8 : q.gs ∉ q.gw.toList := by rw [Option.mem_toList]; exact fun e => (hap.out.wo _ e).2.1 rfl
  have hb8 := H7.out.2.1.near k8 hgg
  obtain ⟨B8, c8, rfl, -, -, -, -⟩ := OwnsC.reads ho8
  have d8 := hb8.at_ 4 (v := .slice B g.W.length cw) rfl
  have f8 := hb8.frozen 4
  have hu9 : Upd q.gg w8 (w8.setCell ⟨q.gg, 4, none⟩ (.slice B8 (g.W.erase r).length c8)) := (Upd.refl _ _).set 4 _
  have k9 : Near [q.gg] w8 (w8.setCell ⟨q.gg, 4, none⟩ (.slice B8 (g.W.erase r).length c8)) := Near.upd hu9 (List.mem_singleton_self _)
  have hP : GPost w q { g with W := g.W.erase r } d2' f2 (w8.setCell ⟨q.gg, 4, none⟩ (.slice B8 (g.W.erase r).length c8)) := by
    have hG6 := H6.out.1
    have hdk7 := hG6.dk.nearX H7.out.2.2.2 (fun x hx hm => hap.out.i (List.mem_singleton.1 hm ▸ hx))
    have hdk8 := hdk7.nearX k8 (fun x hx hm => hap.out.w x (Option.mem_toList.1 hm) hx)
    have hdk9 := hdk8.nearX k9 (fun x hx hm => hap.out.g (List.mem_singleton.1 hm ▸ hx))
    have hst := ((hG6.st.near H7.out.2.2.2 (fun hm => hap.out.si (List.mem_singleton.1 hm))).near k8 hgs8).near k9 (fun hm => hap.out.gs (List.mem_singleton.1 hm).symm)
    have hmp := (H7.out.2.2.1.near k8 hgi8).near k9 (fun hm => hap.out.gi (List.mem_singleton.1 hm).symm)
    refine ⟨q, rfl, rfl, rfl, ⟨hdk9, hst, hmp, ⟨.slice B8 (g.W.erase r).length c8, sp', hv8, hb8.set_ 4 _, OwnsC.nearO ho8 k9 (fun x hx hm => (hap.out.wo x (hv8 ▸ hx)).1 (List.mem_singleton.1 hm))⟩, ⟨hG6.ok.h1, hG6.ok.h512, hG6.ok.len, hG6.ok.set, hG6.ok.room, hG6.ok.nd.erase r⟩, hG6.ne⟩, ?_, fun _ hx => .inl hx⟩
    have a1 := H7.out.2.2.2.wider (Y := q.all) (fun x hx => by rw [List.mem_singleton.1 hx]; exact GPl.mem.2 (.inr (.inr (.inl rfl))))
    have a2 := k8.wider (Y := q.all) (fun x hx => GPl.mem.2 (.inr (.inr (.inr (.inl (Option.mem_toList.1 hx))))))
    have a3 := k9.wider (Y := q.all) (fun x hx => by rw [List.mem_singleton.1 hx]; exact GPl.mem.2 (.inl rfl))
    exact ((H6.out.2.2.trans a1).trans a2).trans a3
  have HP := Lib.hid hP
  clear hP hb8 ho8 hv8 k8 k9 hu9 hgg hgi8 hgs8 hdr d4 H7 H6
  go_wp2
  go_ret
  rw [HL1.out]
  exact ⟨rfl, HP.out⟩
end
end Go.Proofs.YthfdjemlibecgaaDoor

/- The plain seal, reckoned with natural numbers, so that the kernel can reckon it of long bytes. Plain facts. No condition. -/
namespace Go
namespace ShaN
/-- A number reckoned ahead of what uses it. -/
def force {α : Type} (n : Nat) (f : Nat → α) : α := match n with
  | 0 => f 0
  | k + 1 => f (k + 1)
theorem force_eq {α : Type} (n : Nat) (f : Nat → α) : force n f = f n := by cases n <;> rfl
def rot (x n : Nat) : Nat := Nat.lor (Nat.shiftRight x n) (Nat.mod (Nat.shiftLeft x (32 - n)) 4294967296)
def sg0 (x : Nat) : Nat := Nat.xor (Nat.xor (rot x 7) (rot x 18)) (Nat.shiftRight x 3)
def sg1 (x : Nat) : Nat := Nat.xor (Nat.xor (rot x 17) (rot x 19)) (Nat.shiftRight x 10)
def tt1 (k w e f g h : Nat) : Nat := Nat.mod (h + Nat.xor (Nat.xor (rot e 6) (rot e 11)) (rot e 25) + Nat.xor (Nat.land e f) (Nat.land (4294967295 - e) g) + k + w) 4294967296
def tt2 (a b c : Nat) : Nat := Nat.xor (Nat.xor (rot a 2) (rot a 13)) (rot a 22) + Nat.xor (Nat.xor (Nat.land a b) (Nat.land a c)) (Nat.land b c)
def nextN (w0 w1 w9 w14 : Nat) : Nat := Nat.mod (sg1 w14 + w9 + sg0 w1 + w0) 4294967296
/-- Some rounds; 16 words ahead are known. -/
def go : List Nat → List Nat → Nat → Nat → Nat → Nat → Nat → Nat → Nat → Nat → List Nat
  | [], _, a, b, c, d, e, f, g, h => [a, b, c, d, e, f, g, h]
  | k :: ks, ws, a, b, c, d, e, f, g, h =>
    force (ws.getD 0 0) fun w0 =>
    force (tt1 k w0 e f g h) fun t1 =>
    force (Nat.mod (t1 + tt2 a b c) 4294967296) fun a' =>
    force (Nat.mod (d + t1) 4294967296) fun e' =>
    force (nextN w0 (ws.getD 1 0) (ws.getD 9 0) (ws.getD 14 0)) fun wn =>
    go ks (ws.drop 1 ++ [wn]) a' a b c e' e f g
def toL (s : Sha.St) : List Nat := [s.a.toNat, s.b.toNat, s.c.toNat, s.d.toNat, s.e.toNat, s.f.toNat, s.g.toNat, s.h.toNat]
theorem rot_eq (x : UInt32) (n : Nat) (h0 : 0 < n) (h : n < 32) : rot x.toNat n = (Sha.rotr x n).toNat := by
  unfold rot Sha.rotr
  rw [UInt32.toNat_or, u32_shr_nat x n h, u32_shl_nat x (32 - n) (by omega)]
  show Nat.lor (x.toNat >>> n) ((x.toNat <<< (32 - n)) % 4294967296) = _
  rw [Nat.shiftRight_eq_div_pow, Nat.shiftLeft_eq]; rfl
theorem sg0_eq (x : UInt32) : sg0 x.toNat = (Sha.s0 x).toNat := by
  unfold sg0 Sha.s0
  rw [UInt32.toNat_xor, UInt32.toNat_xor, rot_eq x 7 (by omega) (by omega), rot_eq x 18 (by omega) (by omega)]
  have := u32_shr_nat x 3 (by omega)
  rw [show (x >>> (3 : UInt32)) = x >>> UInt32.ofNat 3 from rfl, this]
  show Nat.xor _ (x.toNat >>> 3) = _
  rw [Nat.shiftRight_eq_div_pow]; rfl
theorem sg1_eq (x : UInt32) : sg1 x.toNat = (Sha.s1 x).toNat := by
  unfold sg1 Sha.s1
  rw [UInt32.toNat_xor, UInt32.toNat_xor, rot_eq x 17 (by omega) (by omega), rot_eq x 19 (by omega) (by omega)]
  have := u32_shr_nat x 10 (by omega)
  rw [show (x >>> (10 : UInt32)) = x >>> UInt32.ofNat 10 from rfl, this]
  show Nat.xor _ (x.toNat >>> 10) = _
  rw [Nat.shiftRight_eq_div_pow]; rfl
theorem not_eq (x : UInt32) : 4294967295 - x.toNat = (~~~x).toNat := by
  rw [UInt32.toNat_not]; simp [UInt32.size]
theorem tt1_eq (k w : UInt32) (s : Sha.St) : tt1 k.toNat w.toNat s.e.toNat s.f.toNat s.g.toNat s.h.toNat = (Sha.t1 k w s).toNat := by
  unfold tt1 Sha.t1
  rw [not_eq, rot_eq s.e 6 (by omega) (by omega), rot_eq s.e 11 (by omega) (by omega), rot_eq s.e 25 (by omega) (by omega)]
  simp only [UInt32.toNat_add, UInt32.toNat_xor, UInt32.toNat_and]
  show (_ + (_ ^^^ _ ^^^ _) + ((_ &&& _) ^^^ (_ &&& _)) + _ + _) % 4294967296 = _
  omega
theorem tt2_eq (s : Sha.St) : tt2 s.a.toNat s.b.toNat s.c.toNat % 4294967296 = (Sha.t2 s).toNat := by
  unfold tt2 Sha.t2
  rw [rot_eq s.a 2 (by omega) (by omega), rot_eq s.a 13 (by omega) (by omega), rot_eq s.a 22 (by omega) (by omega)]
  simp only [UInt32.toNat_add, UInt32.toNat_xor, UInt32.toNat_and]
  rfl
theorem next_eq (w0 w1 w9 w14 : UInt32) : nextN w0.toNat w1.toNat w9.toNat w14.toNat = (Sha.s1 w14 + w9 + Sha.s0 w1 + w0).toNat := by
  unfold nextN
  rw [sg1_eq, sg0_eq]
  simp only [UInt32.toNat_add]
  show (_ + _ + _ + _) % 4294967296 = _
  omega
/-- Rounds from t on. -/
theorem go_eq (m : Nat → UInt32) (s : Sha.St) : ∀ (n t : Nat), t + n = 64 →
    go ((Sha.kl.drop t).map (·.toNat)) ((List.range 16).map fun i => (Sha.wd m (t + i)).toNat) (Sha.rounds m s t).a.toNat (Sha.rounds m s t).b.toNat (Sha.rounds m s t).c.toNat (Sha.rounds m s t).d.toNat (Sha.rounds m s t).e.toNat (Sha.rounds m s t).f.toNat (Sha.rounds m s t).g.toNat (Sha.rounds m s t).h.toNat
      = toL (Sha.rounds m s 64)
  | 0, t, h => by
    obtain rfl : t = 64 := by omega
    have : Sha.kl.drop 64 = [] := rfl
    rw [this]; rfl
  | n + 1, t, h => by
    have hk : Sha.kl.drop t = Sha.kt t :: Sha.kl.drop (t + 1) := by
      have hl : t < Sha.kl.length := by show t < 64; omega
      rw [List.drop_eq_getElem_cons hl]
      congr 1
      unfold Sha.kt
      simp [List.getD, hl]
    rw [hk, List.map_cons]
    unfold go
    simp only [force_eq]
    have e0 : ((List.range 16).map fun i => (Sha.wd m (t + i)).toNat).getD 0 0 = (Sha.wd m t).toNat := rfl
    have e1 : ((List.range 16).map fun i => (Sha.wd m (t + i)).toNat).getD 1 0 = (Sha.wd m (t + 1)).toNat := rfl
    have e9 : ((List.range 16).map fun i => (Sha.wd m (t + i)).toNat).getD 9 0 = (Sha.wd m (t + 9)).toNat := rfl
    have e14 : ((List.range 16).map fun i => (Sha.wd m (t + i)).toNat).getD 14 0 = (Sha.wd m (t + 14)).toNat := rfl
    rw [e0, e1, e9, e14, tt1_eq, next_eq]
    have hw : (Sha.s1 (Sha.wd m (t + 14)) + Sha.wd m (t + 9) + Sha.s0 (Sha.wd m (t + 1)) + Sha.wd m t) = Sha.wd m (t + 16) := by
      rw [Sha.wd_hi m (show 16 ≤ t + 16 by omega)]
      rw [show t + 16 - 2 = t + 14 by omega, show t + 16 - 7 = t + 9 by omega, show t + 16 - 15 = t + 1 by omega, show t + 16 - 16 = t by omega]
    rw [hw]
    have hwin : ((List.range 16).map fun i => (Sha.wd m (t + i)).toNat).drop 1 ++ [(Sha.wd m (t + 16)).toNat] = (List.range 16).map fun i => (Sha.wd m (t + 1 + i)).toNat := by
      have : ∀ i, Sha.wd m (t + 1 + i) = Sha.wd m (t + (1 + i)) := fun i => by rw [Nat.add_assoc]
      simp only [this]
      rfl
    rw [hwin]
    have hr : Sha.rounds m s (t + 1) = Sha.round (Sha.kt t) (Sha.wd m t) (Sha.rounds m s t) := rfl
    have ha : ((Sha.t1 (Sha.kt t) (Sha.wd m t) (Sha.rounds m s t)).toNat + tt2 (Sha.rounds m s t).a.toNat (Sha.rounds m s t).b.toNat (Sha.rounds m s t).c.toNat).mod 4294967296 = (Sha.rounds m s (t + 1)).a.toNat := by
      rw [hr]
      show (_ + _) % 4294967296 = (Sha.t1 _ _ _ + Sha.t2 _).toNat
      rw [UInt32.toNat_add, ← tt2_eq]
      omega
    have he : ((Sha.rounds m s t).d.toNat + (Sha.t1 (Sha.kt t) (Sha.wd m t) (Sha.rounds m s t)).toNat).mod 4294967296 = (Sha.rounds m s (t + 1)).e.toNat := by
      rw [hr]
      show (_ + _) % 4294967296 = ((Sha.rounds m s t).d + Sha.t1 _ _ _).toNat
      rw [UInt32.toNat_add]
    rw [ha, he]
    have := go_eq m s n (t + 1) (by omega)
    rw [← this]
    rfl
def beN (a b c d : Nat) : Nat := Nat.lor (Nat.lor (Nat.lor (Nat.mod (Nat.shiftLeft a 24) 4294967296) (Nat.mod (Nat.shiftLeft b 16) 4294967296)) (Nat.mod (Nat.shiftLeft c 8) 4294967296)) d
theorem beN_eq (a b c d : UInt8) : beN a.toNat b.toNat c.toNat d.toNat = (Sha.be a b c d).toNat := by
  unfold beN Sha.be
  have e : ∀ (x : UInt8) (n : Nat), n < 32 → (Nat.shiftLeft x.toNat n).mod 4294967296 = (x.toUInt32 <<< UInt32.ofNat n).toNat := fun x n h => by
    rw [u32_shl_nat _ n h, UInt8.toNat_toUInt32]
    show (x.toNat <<< n) % _ = _
    rw [Nat.shiftLeft_eq]
  rw [UInt32.toNat_or, UInt32.toNat_or, UInt32.toNat_or, UInt8.toNat_toUInt32, e a 24 (by omega), e b 16 (by omega), e c 8 (by omega)]
  rfl
def w4 : List Nat → List Nat
  | a :: b :: c :: d :: r => force (beN a b c d) fun w => w :: w4 r
  | _ => []
theorem w4_eq (l : List UInt8) : ∀ (n at_ : Nat), at_ + 4 * n ≤ l.length → w4 (((l.drop at_).take (4 * n)).map (·.toNat)) = (List.range n).map fun t => (Sha.word l at_ t).toNat
  | 0, at_, _ => by simp [w4]
  | n + 1, at_, h => by
    have e4 : (l.drop at_).take (4 * (n + 1)) = l.getD at_ 0 :: l.getD (at_ + 1) 0 :: l.getD (at_ + 2) 0 :: l.getD (at_ + 3) 0 :: (l.drop (at_ + 4)).take (4 * n) := by
      have hg : ∀ i, i < l.length → l.drop i = l.getD i 0 :: l.drop (i + 1) := fun i hi => by
        rw [List.drop_eq_getElem_cons hi]; congr 1; simp [List.getD, hi]
      rw [hg at_ (by omega), hg (at_ + 1) (by omega), hg (at_ + 1 + 1) (by omega), hg (at_ + 1 + 1 + 1) (by omega)]
      rw [show 4 * (n + 1) = 4 * n + 1 + 1 + 1 + 1 by omega]
      simp only [List.take_succ_cons]
    rw [e4]
    simp only [List.map_cons, w4, force_eq]
    rw [w4_eq l n (at_ + 4) (by omega), beN_eq, List.range_succ_eq_map, List.map_cons, List.map_map]
    have hw0 : Sha.word l at_ 0 = Sha.be (l.getD at_ 0) (l.getD (at_ + 1) 0) (l.getD (at_ + 2) 0) (l.getD (at_ + 3) 0) := rfl
    rw [hw0]
    refine congrArg (List.cons _) ?_
    apply List.map_congr_left
    intro t _
    simp only [Function.comp, Sha.word]
    rw [show at_ + 4 + 4 * t = at_ + 4 * (t + 1) by omega]
def kN : List Nat := [
  0x428a2f98, 0x71374491, 0xb5c0fbcf, 0xe9b5dba5, 0x3956c25b, 0x59f111f1, 0x923f82a4, 0xab1c5ed5,
  0xd807aa98, 0x12835b01, 0x243185be, 0x550c7dc3, 0x72be5d74, 0x80deb1fe, 0x9bdc06a7, 0xc19bf174,
  0xe49b69c1, 0xefbe4786, 0x0fc19dc6, 0x240ca1cc, 0x2de92c6f, 0x4a7484aa, 0x5cb0a9dc, 0x76f988da,
  0x983e5152, 0xa831c66d, 0xb00327c8, 0xbf597fc7, 0xc6e00bf3, 0xd5a79147, 0x06ca6351, 0x14292967,
  0x27b70a85, 0x2e1b2138, 0x4d2c6dfc, 0x53380d13, 0x650a7354, 0x766a0abb, 0x81c2c92e, 0x92722c85,
  0xa2bfe8a1, 0xa81a664b, 0xc24b8b70, 0xc76c51a3, 0xd192e819, 0xd6990624, 0xf40e3585, 0x106aa070,
  0x19a4c116, 0x1e376c08, 0x2748774c, 0x34b0bcb5, 0x391c0cb3, 0x4ed8aa4a, 0x5b9cca4f, 0x682e6ff3,
  0x748f82ee, 0x78a5636f, 0x84c87814, 0x8cc70208, 0x90befffa, 0xa4506ceb, 0xbef9a3f7, 0xc67178f2]
theorem kN_eq : Sha.kl.map (·.toNat) = kN := by decide +kernel
/-- Numbers reckoned ahead of what uses them. -/
def forceL {α : Type} : List Nat → (List Nat → α) → α
  | [], f => f []
  | n :: l, f => force n fun m => forceL l fun r => f (m :: r)
theorem forceL_eq {α : Type} : ∀ (l : List Nat) (f : List Nat → α), forceL l f = f l
  | [], _ => rfl
  | n :: l, f => by simp only [forceL, force_eq, forceL_eq l]
def addL : List Nat → List Nat → List Nat
  | a :: l, b :: m => Nat.mod (a + b) 4294967296 :: addL l m
  | _, _ => []
def blkN (s : List Nat) (bytes : List Nat) : List Nat := match s with
  | [a, b, c, d, e, f, g, h] => addL s (go kN (w4 bytes) a b c d e f g h)
  | _ => []
theorem blkN_eq (s : Sha.St) (l : List UInt8) (at_ : Nat) (h : at_ + 64 ≤ l.length) : blkN (toL s) (((l.drop at_).take 64).map (·.toNat)) = toL (Sha.blk s l at_) := by
  have hw := w4_eq l 16 at_ h
  unfold blkN toL
  simp only []
  rw [show (64 : Nat) = 4 * 16 from rfl, hw]
  have hwd : ((List.range 16).map fun t => (Sha.word l at_ t).toNat) = (List.range 16).map fun i => (Sha.wd (Sha.word l at_) (0 + i)).toNat := by
    apply List.map_congr_left
    intro t ht
    rw [Nat.zero_add, Sha.wd_lo _ (List.mem_range.1 ht)]
  have := go_eq (Sha.word l at_) s 64 0 rfl
  rw [← hwd, List.drop_zero, kN_eq] at this
  have e0 : Sha.rounds (Sha.word l at_) s 0 = s := rfl
  rw [e0] at this
  rw [this]
  unfold Sha.blk Sha.add toL
  simp only [addL, UInt32.toNat_add]
  rfl
def blksN : Nat → List Nat → List Nat → List Nat
  | 0, _, s => s
  | n + 1, l, s => forceL (blkN s (l.take 64)) fun s' => blksN n (l.drop 64) s'
theorem blksN_eq (l : List UInt8) (s : Sha.St) : ∀ (n k : Nat), 64 * (k + n) ≤ l.length → blksN n ((l.drop (64 * k)).map (·.toNat)) (toL (Sha.blks l s k)) = toL (Sha.blks l s (k + n))
  | 0, k, _ => rfl
  | n + 1, k, h => by
    simp only [blksN, forceL_eq]
    rw [← List.map_take, blkN_eq _ _ _ (by omega), ← List.map_drop, List.drop_drop]
    have : toL (Sha.blk (Sha.blks l s k) l (64 * k)) = toL (Sha.blks l s (k + 1)) := rfl
    rw [this, show 64 * k + 64 = 64 * (k + 1) by omega, blksN_eq l s n (k + 1) (by omega)]
    congr 2; omega
def outN (s : List Nat) : List Nat := (List.range 16).map fun k => Nat.mod (Nat.div (s.getD (k / 4) 0) (2 ^ (24 - 8 * (k % 4)))) 256
def initN : List Nat := [0x6a09e667, 0xbb67ae85, 0x3c6ef372, 0xa54ff53a, 0x510e527f, 0x9b05688c, 0x1f83d9ab, 0x5be0cd19]
/-- The seal of bytes. -/
def sumN (l : List Nat) (tl : List Nat) (n : Nat) : List Nat := outN (blksN n (l ++ tl) initN)
theorem sumN_eq (l : List UInt8) (n : Nat) (hn : n = (l.length + Sha.zeros l.length + 9) / 64) : (Sha.sum l).map (·.toNat) = sumN (l.map (·.toNat)) ((Sha.tail l.length).map (·.toNat)) n := by
  unfold sumN Sha.sum
  have hlen : (Sha.pad l).length / 64 = n := by rw [Sha.pad_length, hn]
  rw [hlen]
  have h1 := blksN_eq (Sha.pad l) Sha.init n 0 (by rw [Sha.pad_length]; have := Sha.pad_mod l; rw [Sha.pad_length] at this; omega)
  rw [Nat.mul_zero, List.drop_zero, Nat.zero_add] at h1
  have h0 : toL (Sha.blks (Sha.pad l) Sha.init 0) = initN := by
    show toL Sha.init = initN
    decide +kernel
  rw [h0] at h1
  have hp : (Sha.pad l).map (·.toNat) = l.map (·.toNat) ++ (Sha.tail l.length).map (·.toNat) := by unfold Sha.pad; rw [List.map_append]
  rw [← hp, h1]
  unfold Sha.out outN
  rw [List.map_map]
  apply List.map_congr_left
  intro k hk
  have hk16 := List.mem_range.1 hk
  simp only [Function.comp, Sha.outAt, Sha.byte]
  have hg : (toL (Sha.blks (Sha.pad l) Sha.init n)).getD (k / 4) 0 = (Sha.get (Sha.blks (Sha.pad l) Sha.init n) (k / 4)).toNat := by
    have : k / 4 = 0 ∨ k / 4 = 1 ∨ k / 4 = 2 ∨ k / 4 = 3 := by omega
    rcases this with h | h | h | h <;> rw [h] <;> rfl
  rw [hg]
  exact UInt8.toNat_ofNat_of_lt' (by have := Nat.mod_lt ((Sha.get (Sha.blks (Sha.pad l) Sha.init n) (k / 4)).toNat / 2 ^ (24 - 8 * (k % 4))) (show 0 < 256 by omega); simpa [UInt8.size] using this)
theorem toNat_inj : ∀ {l m : List UInt8}, l.map (·.toNat) = m.map (·.toNat) → l = m
  | [], [], _ => rfl
  | [], _ :: _, h => by cases h
  | _ :: _, [], h => by cases h
  | a :: l, b :: m, h => by
    simp only [List.map_cons, List.cons.injEq] at h
    rw [UInt8.toNat_inj.1 h.1, toNat_inj h.2]
end ShaN
end Go

/- The chapter's block: its bytes, told by reckoning. No condition. -/
namespace Go.Proofs.YthfdjemlibecgaaDoor
def fiveB : GBT := (1, (5, 7, ()), [(2, 3, ())], [97, 98], ())
theorem five_ok : GB.ok fiveB = true := by decide +kernel
def fiveRest : List UInt8 := GB.rest fiveB
def fiveSum : List UInt8 := [99, 21, 50, 251, 215, 196, 252, 110, 94, 133, 92, 64, 123, 16, 118, 124]
def fiveBad : List UInt8 := [31, 65, 68, 234, 138, 21, 82, 208, 170, 202, 39, 109, 189, 43, 128, 84]
theorem fiveRest_length : fiveRest.length = 1008 := by decide +kernel
theorem fiveSum_eq : Sha.sum fiveRest = fiveSum := by
  refine ShaN.toNat_inj ?_
  rw [ShaN.sumN_eq fiveRest 16 (by decide +kernel), fiveRest_length]
  decide +kernel
theorem fiveBad_eq : Sha.sum (fiveRest.set 884 1) = fiveBad := by
  refine ShaN.toNat_inj ?_
  have hl : (fiveRest.set 884 1).length = 1008 := by rw [List.length_set, fiveRest_length]
  rw [ShaN.sumN_eq (fiveRest.set 884 1) 16 (by rw [hl]; decide +kernel), hl]
  decide +kernel
def fiveBytes : List UInt8 := GB.bytes fiveB
theorem fiveBytes_eq : fiveBytes = fiveSum ++ fiveRest := by unfold fiveBytes GB.bytes; rw [show GB.rest fiveB = fiveRest from rfl, fiveSum_eq]
theorem fiveBytes_length : fiveBytes.length = 1024 := by rw [fiveBytes_eq, List.length_append, fiveRest_length]; rfl
theorem five_read : GB.read fiveBytes = (0, fiveB) := GB.read_bytes fiveB five_ok
theorem five_short : GB.read (fiveBytes.take 1023) = (4, GB.none_) := by
  unfold GB.read; rw [if_pos (by rw [List.length_take, fiveBytes_length]; decide)]
theorem five_at : fiveBytes[16]? = some 1 ∧ fiveBytes[20]? = some 5 ∧ fiveBytes[24]? = some 7 ∧ fiveBytes[28]? = some 1 ∧ fiveBytes[32]? = some 2 ∧ fiveBytes[36]? = some 2 ∧ fiveBytes[164]? = some 97 ∧ fiveBytes[900]? = some 0 := by
  rw [fiveBytes_eq]; decide +kernel
theorem five_turned : GB.read (fiveBytes.set 900 1) = (12, GB.none_) := by
  have e : fiveBytes.set 900 1 = fiveSum ++ fiveRest.set 884 1 := by rw [fiveBytes_eq, List.set_append_right _ _ (by decide)]; rfl
  have h1 : (fiveSum ++ fiveRest.set 884 1).drop 16 = fiveRest.set 884 1 := rfl
  have h2 : (fiveSum ++ fiveRest.set 884 1).take 16 = fiveSum := rfl
  unfold GB.read
  rw [if_neg (by rw [List.length_set, fiveBytes_length]; simp), e, h1, h2, fiveBad_eq, if_pos (by decide)]
end Go.Proofs.YthfdjemlibecgaaDoor
