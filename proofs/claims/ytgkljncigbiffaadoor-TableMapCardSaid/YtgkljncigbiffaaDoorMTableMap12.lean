/- The program's set of blocks: the iterator over its blocks. Conditions: the set's block is known; the loop's body keeps it, and the iterator's own box. -/
import Derived.Test.YtgkljncigbiffaaDoorMTableMap11
import Derived.RangeFuncNested
import Derived.RangeFuncBound
import Derived.RangeFuncCalls
import Derived.RangeFuncLeaves
import Derived.Shelf.Abstract
import Derived.Shelf.RegionOpen
import Derived.WalkKit
import Derived.OwnWalkIn
import Derived.TacticsInMore
import Derived.LoopNIn
import Derived.LoopIn
import Derived.Test.YtgkljncigbiffaaDoorProg
namespace Go.Proofs.YtgkljncigbiffaaDoor
open Go.RowKit Go.Shelf
attribute [local go_sem] Oper.semAt_some
/-- A block's number (from 1 on), and how it is. -/
abbrev It (n : Nat) := { p : Nat × Nat // 1 ≤ p.1 ∧ p.1 ≤ n ∧ p.2 ≤ 2 }
def itm (L : List Nat) (hok : SetOk L) (h0 : 0 < L.length) (k : Nat) : It L.length :=
  if h : k < L.length then ⟨(k + 1, L.getD k 0), by simp, by show k + 1 ≤ L.length; omega, hok.le k⟩ else ⟨(1, 0), by simp, by show 1 ≤ L.length; omega, by simp⟩
theorem itm_val (L : List Nat) (hok : SetOk L) (h0 : 0 < L.length) {k : Nat} (h : k < L.length) : (itm L hok h0 k).1 = (k + 1, L.getD k 0) := by unfold itm; rw [dif_pos h]
def upto {α : Type} (f : Nat → α) (k : Nat) : List α := (List.range k).map f
theorem upto_succ {α : Type} (f : Nat → α) (k : Nat) : upto f (k + 1) = upto f k ++ [f k] := by simp [upto, List.range_succ]
theorem upto_length {α : Type} (f : Nat → α) (k : Nat) : (upto f k).length = k := by simp [upto]
/-- What a round keeps: the set's block and the iterator's box. -/
def Kp (g bx : Nat) (W W' : World) : Prop := W.heap.size ≤ W'.heap.size ∧ W'.heap[g]? = W.heap[g]? ∧ W'.heap[bx]? = W.heap[bx]?
theorem Kp.trans {g bx : Nat} {A B C : World} (h : Kp g bx A B) (k : Kp g bx B C) : Kp g bx A C := ⟨Nat.le_trans h.1 k.1, k.2.1.trans h.2.1, k.2.2.trans h.2.2⟩
def encs {n : Nat} (x : It n) : Array Value := #[.int .i64 (x.1.1 : Int), .int .i64 (x.1.2 : Int)]
theorem all_any (g : Nat) (w : World) : Calls Tryd.prog 130 #[.pointer (some ⟨g, 0, none⟩)] w fun e w' => e = .returned (.func (.func 150) #[] #[.pointer (some ⟨w.heap.size, 0, none⟩)]) ∧ w' = w.alloc (.cells #[.pointer (some ⟨g, 0, none⟩)] 26) := by
  go_enter Tryd.func130, Tryd.ntmps130
  go_wp2
  go_ret
  exact ⟨rfl, rfl⟩
theorem drewN_grown (w : World) (n : Nat) (row : Option Nat) : w.grownBy (w.drewN n) row := ⟨rfl, rfl, rfl, Nat.le_refl _, fun _ _ _ => rfl⟩
set_option maxRecDepth 100000 in
set_option maxHeartbeats 2000000 in
theorem all1_in (n : Nat) (hn : 1 ≤ n) (L : List Nat) (hok : SetOk L) (h0 : 0 < L.length) (g bx l : Nat) (J Jx : List (It L.length) → World → Prop)
    (hJ : ∀ s W m, J s W → J s (W.drewN m))
    (hY : ∀ pre x W, J pre W → pre.length < L.length → YieldAt Fence.wide (n - 1) Tryd.prog l (encs x) W fun e W' =>
      (e = .returned (.bool true) ∧ J (pre ++ [x]) W' ∧ Kp g bx W W') ∨ (e = .returned (.bool false) ∧ Jx (pre ++ [x]) W'))
    (W : World) (hg : Blk W g 203 (setCells L)) (hb : Blk W bx 26 #[.pointer (some ⟨g, 0, none⟩)]) (hJ0 : J [] W) :
    CallsIn Fence.wide n Tryd.prog 150 #[.func (.yield l) #[] #[], .pointer (some ⟨bx, 0, none⟩)] W fun e W' => (∃ v, e = .returned v) ∧
      ((∃ ys, ys = upto (itm L hok h0) L.length ∧ J ys W') ∨ (∃ pre, (∃ k, k ≤ L.length ∧ pre = upto (itm L hok h0) k) ∧ Jx pre W')) := by
  have hl := hok.len
  refine callsIn_of_wp Tryd.func150 rfl trivial ?_ rfl
  simp only [Tryd.ntmps150, List.size_toArray, List.length_cons, List.length_nil, Nat.reduceAdd, Nat.reduceSub, Array.replicate_succ, Array.replicate_zero, List.push_toArray, List.append_toArray, List.nil_append, List.cons_append]
  gi_wp2
  gi_loopw [3] (fun i wr => ∃ k : Nat, k ≤ L.length ∧ i = .int .i64 ((k : Int) + 1) ∧ J (upto (itm L hok h0) k) wr ∧ Blk wr g 203 (setCells L) ∧ Blk wr bx 26 #[.pointer (some ⟨g, 0, none⟩)])
    (fun i _ => L.length + 1 - (intOf i).toNat)
  case atStart => exact ⟨0, Nat.zero_le _, rfl, hJ0, hg, hb⟩
  case round =>
    clear hg hb
    obtain ⟨k, hk, rfl, hJs, hg, hb⟩ := hrel
    have c0 : wr.cell? ⟨bx, 0, none⟩ = some (.pointer (some ⟨g, 0, none⟩)) := hb.at_ 0 rfl
    have c1 : wr.cell? ⟨g, 0, none⟩ = some (.int .i64 (L.length : Nat)) := hg.at_ 0 (by rw [setCells, arr_at _ (by omega), setv_0])
    by_cases hlt : k < L.length
    · have his := callsIn_wide (n := n - 1).2 (is_any L hok h0 g ((k : Int) + 1) (by omega) (by omega) wr hg)
      have hia : isAt L ((k : Int) + 1) = (L.getD k 0 : Nat) := by
        unfold isAt; rw [if_pos (by omega), show ((k : Int) + 1 - 1).toNat = k by omega]
      have hY1 := fun m => hY _ (itm L hok h0 k) (wr.drewN m) (hJ _ _ m hJs) (by rw [upto_length]; exact hlt)
      rw [hia] at his
      have ek : ((k + 1 : Nat) : Int) = (k : Int) + 1 := by omega
      simp only [encs, itm_val L hok h0 hlt, ek] at hY1
      have hle := hok.le k
      generalize L.getD k 0 = x at his hY1 hle
      have hG := Lib.hid hg
      have hB := Lib.hid hb
      clear hg hb hia ek
      gi_wp2_with fail
      refine ⟨trivial, ?_⟩
      refine his.mono ?_
      rintro e w' ⟨rfl, m, rfl⟩
      obtain ⟨fn, tmps, assign, body, hy, hR⟩ := hY1 m
      clear hY1 hY his
      gi_wp2
      refine hR.mono ?_
      rintro e W3 (⟨rfl, hJ3, hk3⟩ | ⟨rfl, hJx3⟩)
      · have hg3 : Blk W3 g 203 (setCells L) := hk3.2.1.trans hG.out
        have hb3 : Blk W3 bx 26 #[.pointer (some ⟨g, 0, none⟩)] := hk3.2.2.trans hB.out
        have hG3 := Lib.hid hg3
        have hB3 := Lib.hid hb3
        clear hg3 hb3 hk3 hG hB c0 c1
        gi_wp2
        go_roundw
        case rel => exact ⟨k + 1, by omega, by go_num, by rw [upto_succ]; exact hJ3, hG3.out, hB3.out⟩
        case measure => simp [intOf]; omega
      · gi_wp2
        refine bodyPost_ret (results_none rfl _ _ _) rfl ?_
        exact ⟨⟨_, rfl⟩, .inr ⟨_, ⟨k + 1, by omega, (upto_succ _ _).symm⟩, hJx3⟩⟩
    · obtain rfl : k = L.length := by omega
      gi_wp2
      go_end0
      exact ⟨⟨_, rfl⟩, .inl ⟨_, rfl, hJs⟩⟩
theorem all1_stops (n : Nat) (hn : 1 ≤ n) (L : List Nat) (hok : SetOk L) (h0 : 0 < L.length) (g bx : Nat) (w : World) (hg : Blk w g 203 (setCells L)) (hb : Blk w bx 26 #[.pointer (some ⟨g, 0, none⟩)]) :
    SeqStopsK Fence.wide n Tryd.prog 150 #[.pointer (some ⟨bx, 0, none⟩)] (encs (n := L.length)) (Kp g bx) (fun ys => ys = upto (itm L hok h0) L.length) (fun pre => ∃ k, k ≤ L.length ∧ pre = upto (itm L hok h0) k) L.length w := fun l J Jx W hW hJ _ hY hJ0 =>
  all1_in n hn L hok h0 g bx l J Jx (fun s W m hs => hJ s W _ none hs (drewN_grown W m none) (fun r e => by cases e)) hY W (hg.below hW hg.lt) (hb.below hW hb.lt) hJ0
end Go.Proofs.YtgkljncigbiffaaDoor

/- The bytes of a set of blocks, plainly. Conditions: at most 512 blocks, each 0, 1 or 2. -/
namespace Go.Proofs.YtgkljncigbiffaaDoor
open Go.RowKit
/-- Four blocks in a byte. -/
def q4 (f : Nat → Nat) (j : Nat) : Nat := f (4 * j) + 4 * f (4 * j + 1) + 16 * f (4 * j + 2) + 64 * f (4 * j + 3)
def encH (n : Nat) : List UInt8 := [UInt8.ofNat (n % 256), UInt8.ofNat (n / 256)]
def encF (n : Nat) (f : Nat → Nat) : List UInt8 := encH n ++ (List.range ((n + 3) / 4)).map fun j => UInt8.ofNat (q4 f j)
def enc (L : List Nat) : List UInt8 := encF L.length fun i => L.getD i 0
end Go.Proofs.YtgkljncigbiffaaDoor

/- The program's set of blocks: its bytes. Conditions: the set's block is known. -/
namespace Go.Proofs.YtgkljncigbiffaaDoor
open Go.RowKit Go.Shelf
attribute [local go_sem] Oper.semAt_some
theorem blk_own {W W' : World} {b B : Nat} {t : TypeId} {cs : Array Value} {row : Option Nat} (h : Blk W b t cs) (hg : W.grownBy W' row) (hr : ∀ r, row = some r → B ≤ r ∧ ∃ o : Obj, W.heap[r]? = some o ∧ o.isCells = false) : Blk W' b t cs :=
  (hg.block b h.lt (fun e => by
    obtain ⟨_, o, ho, hc⟩ := hr b e.symm
    unfold Blk at h
    rw [h] at ho; cases ho; cases hc)).trans h
end Go.Proofs.YtgkljncigbiffaaDoor

/- The program's set of blocks: its counts. Conditions: the set's block is known. -/
namespace Go.Proofs.YtgkljncigbiffaaDoor
open Go.RowKit Go.Shelf
attribute [local go_sem] Oper.semAt_some
def cnts (l : List Nat) (v : Nat) : Nat := (l.filter fun x => decide (x = v)).length
theorem cnts_snoc (l : List Nat) (x v : Nat) : cnts (l ++ [x]) v = cnts l v + if x = v then 1 else 0 := by
  unfold cnts
  rw [List.filter_append, List.length_append, List.filter_cons]
  by_cases h : x = v
  · simp [h]
  · simp [h]
theorem cnts_le (l : List Nat) (v : Nat) : cnts l v ≤ l.length := List.length_filter_le _ _
def c3 (l : List Nat) : Array Value := #[.int .i64 (cnts l 0 : Nat), .int .i64 (cnts l 1 : Nat), .int .i64 (cnts l 2 : Nat)]
theorem c3_at (l : List Nat) (v : Nat) (h : v ≤ 2) : (c3 l)[v]? = some (.int .i64 (cnts l v : Nat)) := by
  have : v = 0 ∨ v = 1 ∨ v = 2 := by omega
  rcases this with rfl | rfl | rfl <;> rfl
theorem c3_snoc (l : List Nat) (v : Nat) (h : v ≤ 2) : (c3 l).setIfInBounds v (.int .i64 ((cnts l v : Nat) + 1 : Int)) = c3 (l ++ [v]) := by
  have : v = 0 ∨ v = 1 ∨ v = 2 := by omega
  unfold c3
  rcases this with rfl | rfl | rfl <;> simp [cnts_snoc]
set_option maxRecDepth 100000 in
set_option maxHeartbeats 2000000 in
theorem counts_any (L : List Nat) (hok : SetOk L) (h0 : 0 < L.length) (g : Nat) (w : World) (h : Blk w g 203 (setCells L)) :
    Calls Tryd.prog 94 #[.pointer (some ⟨g, 0, none⟩)] w fun e w' => e = .returned (.tuple #[.int .i64 (cnts L 0 : Nat), .int .i64 (cnts L 1 : Nat), .int .i64 (cnts L 2 : Nat)]) ∧ Below w.heap.size w w' := by
  have hl := hok.len
  have hn := none_any L g w h
  rw [decide_eq_false (by omega)] at hn
  have hg := h.lt
  refine callsIn_wide (n := 3).1 ?_
  refine callsIn_of_wp_marks Tryd.func94 rfl trivial ?_ rfl
  simp only [Tryd.ntmps94, List.size_toArray, List.length_cons, List.length_nil, Nat.reduceAdd, Nat.reduceSub, Array.replicate_succ, Array.replicate_zero, List.push_toArray, List.append_toArray, List.nil_append, List.cons_append]
  refine wpIn_wide.2 ?_
  go_wp2_with (first
    | (go_at_call 129; refine hn.mono ?_; rintro e w' ⟨rfl, rfl⟩)
    | fail)
  refine (all_any g _).mono ?_
  rintro e w' ⟨rfl, rfl⟩
  go_wp2_with fail
  have hx5 : Blk ((w.alloc (.cells #[.int .i64 0, .int .i64 0, .int .i64 0] 197)).alloc (.cells #[.pointer (some ⟨g, 0, none⟩)] 26)) w.heap.size 197 (c3 []) := (Blk.new w _ _).alloc _
  have hb5 : Blk ((w.alloc (.cells #[.int .i64 0, .int .i64 0, .int .i64 0] 197)).alloc (.cells #[.pointer (some ⟨g, 0, none⟩)] 26)) (w.heap.size + 1) 26 #[.pointer (some ⟨g, 0, none⟩)] := Blk.new' _ _ _ (by simp)
  have hg5 := (h.alloc (.cells #[.int .i64 0, .int .i64 0, .int .i64 0] 197)).alloc (.cells #[.pointer (some ⟨g, 0, none⟩)] 26)
  have hB5 := ((Below.refl w.heap.size w).alloc (Nat.le_refl _) (.cells #[.int .i64 0, .int .i64 0, .int .i64 0] 197)).alloc (by simp) (.cells #[.pointer (some ⟨g, 0, none⟩)] 26)
  have hs5 : ((w.alloc (.cells #[.int .i64 0, .int .i64 0, .int .i64 0] 197)).alloc (.cells #[.pointer (some ⟨g, 0, none⟩)] 26)).heap.size = w.heap.size + 2 := by simp
  generalize (w.alloc _).alloc _ = w5 at hx5 hb5 hg5 hB5 hs5 ⊢
  clear h hn
  have hbl := hb5.lt
  refine wpIn_wide (n := 3).1 ?_
  refine wpIn_rangeFunc_ownF rfl (by omega) (gf := 150) (lb := #[.pointer (some ⟨w.heap.size + 1, 0, none⟩)]) rfl trivial (enters_of Tryd.func150 (by kernel_rfl) rfl)
    (all1_stops 2 (by omega) L hok h0 g (w.heap.size + 1) w5 hg5 hb5) (fun h k => h.trans k) (fun W l o o' hl hW ho _ => ⟨by simp, World.putObj_heap_other (by omega), World.putObj_heap_other (by omega)⟩) (Below.refl _ _) (fun _ => rfl)
    (fun pre W => (Blk W w.heap.size 197 (c3 (pre.map (·.1.2)))) ∧ Below w.heap.size w W)
    (fun _ _ _ => False)
    (OwnFrom.and (fun s A B row hs hg hr => blk_own hs hg hr) (ownFrom_below (Nat.le_refl _) (by omega)))
    (fun _ _ _ _ _ hs _ _ => hs)
    ⟨hx5, hB5⟩
    (fun x => { tmps := #[.pointer (some ⟨g, 0, none⟩), undef, .int .i64 0, .int .i64 0, .int .i64 0, .pointer (some ⟨w.heap.size, 0, none⟩), undef, .int .i64 (x.1.2 : Int), .pointer (some ⟨g, 0, none⟩), .bool false, .pointer (some ⟨g, 0, none⟩), .func (.func 150) #[] #[.pointer (some ⟨w.heap.size + 1, 0, none⟩)], .int .i64 (x.1.1 : Int), .int .i64 (x.1.2 : Int), undef, undef, undef, undef, undef, undef, undef, undef, undef, undef, undef], defers := [] }) ?assign ?body ?done ?stop
  case assign =>
    intro l x W K hK
    unfold encs
    gi_wp2
    exact hK
  case body =>
    rintro l pre ⟨⟨b, v⟩, hb1, hb2, hv⟩ W ⟨hX, hB⟩ hlen
    simp only at hb1 hb2 hv
    have hle := cnts_le (pre.map (·.1.2)) v
    rw [List.length_map] at hle
    have dX : W.cell? ⟨w.heap.size, v, none⟩ = some (.int .i64 (cnts (pre.map (·.1.2)) v : Nat)) := hX.at_ v (c3_at _ v hv)
    have fX := hX.frozen v
    have hX2 := (hX.set_ v (.int .i64 ((cnts (pre.map (·.1.2)) v : Nat) + 1 : Int))).sub (c3_snoc _ v hv)
    generalize cnts (pre.map (·.1.2)) v = c at dX hle hX2
    have HX2 := Lib.hid hX2
    clear hX hX2 hs5 hx5 hb5 hg5
    gi_wp2
    refine ⟨KeepsOthers.setCell _ _ _, ⟨by simp [World.setCell], Below.heap_setCell W ⟨w.heap.size, v, none⟩ _ g (by show g ≠ w.heap.size; omega), Below.heap_setCell W ⟨w.heap.size, v, none⟩ _ (w.heap.size + 1) (by show w.heap.size + 1 ≠ w.heap.size; omega)⟩, ?_, hB.set_ (c := w.heap.size) (i := v) (Nat.le_refl _) _⟩
    rw [List.map_append]
    exact HX2.out
  case done =>
    rintro D ys W hD rfl ⟨hX, hB⟩ hK
    have hys : (upto (itm L hok h0) L.length).map (·.1.2) = L := by
      unfold upto
      rw [List.map_map]
      apply List.ext_getElem
      · simp
      · intro i h1 h2
        simp only [List.getElem_map, List.getElem_range, Function.comp]
        rw [itm_val L hok h0 h2]
        simp [h2]
    rw [hys] at hX
    have d0 : W.cell? ⟨w.heap.size, 0, none⟩ = some (.int .i64 (cnts L 0 : Nat)) := hX.at_ 0 rfl
    have d1 : W.cell? ⟨w.heap.size, 1, none⟩ = some (.int .i64 (cnts L 1 : Nat)) := hX.at_ 1 rfl
    have d2 : W.cell? ⟨w.heap.size, 2, none⟩ = some (.int .i64 (cnts L 2 : Nat)) := hX.at_ 2 rfl
    clear hX hys hs5 hx5 hb5 hg5
    go_wp2
    refine wp_region_planT (fun w' => w' = World.drew W) [] [(true, 0), (true, 2), (true, 4), (true, 1), (true, 3), (true, 5), (true, 6), (true, 7), (true, 8)] (by kernel_rfl) (by kernel_rfl) rfl ?_
    refine wpPlan_takeL [0, 2, 4, 1, 3, 5, 6, 7, 8] [] _ (by rfl) (by rfl) (rfl) ?_
    dsimp only [List.filterMap, List.getElem?_cons_zero, List.getElem?_cons_succ]
    repeat (go_big_quiet_step (fail))
    refine wpQuiet_nil ?_
    refine wpPlan_tidy ?_
    have hK2 : W.drew.heap[D]? = some (.deferred (some [])) := hK
    go_wp2
    refine ⟨by simp, .inl ⟨_, _, rfl, run_takeDeferred hK2, ?_⟩⟩
    refine ⟨_, results_tmp3 rfl _ _ _, rfl, hB.drew.trans (belowK_b (w := w) (Nat.le_refl _) W.drew D _ _ (by omega) hK2 rfl rfl)⟩
  case stop =>
    rintro D c pre W _ _ h _
    exact h.elim
end Go.Proofs.YtgkljncigbiffaaDoor

/- A grid is made. Conditions: the disk is known, or none. -/
namespace Go.Proofs.YtgkljncigbiffaaDoor
open Go.RowKit
theorem w64_in {n : Int} (h : -9223372036854775808 ≤ n ∧ n ≤ 9223372036854775807) : wrap64 n = n := by unfold wrap64; omega
section
variable {w : World} {p : Pl} {gf : Option Nat} {d : Dsk} {f : Option Fus}
set_option maxRecDepth 100000 in
set_option maxHeartbeats 4000000 in
theorem gnew_any (h : DkOk w p gf d f) (ho : d.isOut f = false) (n : Nat) (h1 : 1 ≤ n) (h2 : n ≤ 512) (hr : 104 + 4 * n ≤ d.N) :
    Calls Tryd.prog 82 #[.pointer (some ⟨p.gd, 0, none⟩), .int .i64 (n : Int)] w fun e w' => ∃ q : GPl, q.p = p ∧ q.gf = gf ∧ e = .returned (.tuple #[.pointer (some ⟨q.gg, 0, none⟩), .int .i64 0]) ∧
      GridR w' q ⟨n, List.replicate n 0, []⟩ d f ∧ (w.heap.size ≤ q.gg ∧ w.heap.size ≤ q.gs ∧ w.heap.size ≤ q.gi ∧ q.gw = none) ∧ Below w.heap.size w w' := by
  have hs := sectors_all h.dr
  have hu := up_all h.dr h.fr
  rw [ho] at hu
  have hN1 := h.ok.n1
  have kz : ((d.N : Int) == 0) = false := beq_eq_false_iff_ne.2 (by omega)
  have kl : decide ((d.N : Int) < 104 + 4 * (n : Int)) = false := decide_eq_false (by omega)
  have H0 := Lib.hid (And.intro h (And.intro h1 (And.intro h2 (And.intro hr hN1))))
  have hsw := fun w' (hb : Below w.heap.size w w') => sectors_all (h.dr.near (X := []) (Near.below hb) ⟨by simp, by simp, by simp⟩)
  have hn := setNew_any n h1 h2 w
  clear h h1 h2 hr hN1
  go_enter Tryd.func82, Tryd.ntmps82
  go_wp2_with fail
  refine hs.mono ?_
  rintro e w1 ⟨rfl, hw⟩
  obtain rfl := hw.symm
  clear hs hw
  go_wp2_with fail
  refine hu.mono ?_
  rintro e w1 ⟨rfl, hw⟩
  obtain rfl := hw.symm
  clear hu hw
  go_wp2_with fail
  refine hn.mono ?_
  rintro e w2 ⟨rfl, hset, hbx⟩
  have hs2 := hsw w2 hbx
  have H2 := Lib.hid (And.intro hset hbx)
  clear hn hsw hset hbx
  go_wp2_with fail
  refine hs2.mono ?_
  rintro e w3 ⟨rfl, hw⟩
  obtain rfl := hw.symm
  clear hs2 hw kz
  have hw1 : wrap64 (4 * (n : Int)) = 4 * (n : Int) := w64_in (by have := H0.out.2.2.1; omega)
  have hw2 : wrap64 (104 + 4 * (n : Int)) = 104 + 4 * (n : Int) := w64_in (by have := H0.out.2.2.1; omega)
  go_wp2_with (first
    | ((with_reducible show wpList _ _ _ ((⟨some 34, _, _, _, _, _⟩ : Oper) :: _) _ _); refine wpList_make_map (o := ⟨some 34, _, _, _, _, _⟩) _ (by rfl) _ (by rfl) ?_; intro w4 hm4 hb4 hs4)
    | fail)
  have hgg := Blk.new' w4 30 #[.pointer (some ⟨p.gd, 0, none⟩), .int .i64 (n : Int), .pointer (some ⟨w.heap.size, 0, none⟩), .map (some w2.heap.size), .slice none 0 0] (n := w2.heap.size + 1) hs4.symm
  have hbx := (Below.refl w4.heap.size w4).alloc (Nat.le_refl _) (.cells #[.pointer (some ⟨p.gd, 0, none⟩), .int .i64 (n : Int), .pointer (some ⟨w.heap.size, 0, none⟩), .map (some w2.heap.size), .slice none 0 0] 30)
  have hB4 := H2.out.2.trans (hb4.mono H2.out.2.size)
  have hB5 := hB4.trans (hbx.mono hB4.size)
  have hst := (H2.out.1.below hb4 H2.out.1.lt).below hbx (Nat.lt_of_lt_of_le H2.out.1.lt hb4.size)
  have hm5 : MapK _ w2.heap.size (fun _ : RefT => True) encRef (wantM []) := (⟨#[], 0, hm4.below hbx hm4.lt, rfl, by simp, by simp, by simp⟩)
  go_ret2
  refine ⟨⟨w2.heap.size + 1, w.heap.size, w2.heap.size, none, p, gf⟩, rfl, rfl, rfl, ⟨H0.out.1.near (Near.below hB5), hst, hm5, ⟨.slice none 0 0, [], rfl, hgg, .inl ⟨rfl, rfl, rfl, rfl⟩⟩, ⟨H0.out.2.1, H0.out.2.2.1, by simp, setOk_new n H0.out.2.2.1, H0.out.2.2.2.1, List.nodup_nil⟩, fun e => ?_⟩, ⟨by have := H2.out.2.size; show w.heap.size ≤ w2.heap.size + 1; omega, Nat.le_refl _, H2.out.2.size, rfl⟩, hB5⟩
  have h1 := H0.out.1.lt p.gm (by simp [Pl.all])
  have h2 := H2.out.2.size
  have e : w2.heap.size = p.gm := e
  omega
end
end Go.Proofs.YtgkljncigbiffaaDoor

/- Pairs in memory: whether they are many, whether they are sorted. Conditions: they can be read. -/
namespace Go.Proofs.YtgkljncigbiffaaDoor
open Go.RowKit
def plong (p : PairT) : Bool := decide (200 < p.1.length) || decide (200 < p.2.1.length)
def plarge (l : List PairT) (m : Nat) : Bool := decide (m < l.length) || l.any plong
def LpRel (w : World) (l : List PairT) (v : Value) (wr : World) : Prop := ∃ k : Nat, k ≤ l.length ∧ v = .int .i64 (k : Int) ∧ (l.take k).any plong = false ∧ wr = w
set_option maxRecDepth 100000 in
set_option maxHeartbeats 4000000 in
theorem largePairs_any (A : Option Addr) (c : Nat) (l : List PairT) (m : Nat) (hm : m ≤ 1000) (hl : l.length ≤ 9223372036854775807) (w : World) (h : Pairs w A l) :
    Calls Tryd.prog 33 #[.slice A l.length c, .int .i64 (m : Int)] w fun e w' => e = .returned (.bool (plarge l m)) ∧ w' = w := by
  have HP : Hid (plarge l m = (decide (m < l.length) || l.any plong)) := Lib.hid rfl
  generalize plarge l m = R at HP ⊢
  generalize hn : l.length = n at HP hl ⊢
  have HN := Lib.hid (And.intro hn h)
  clear hn h
  go_enter Tryd.func33, Tryd.ntmps33
  by_cases hbig : m < n
  · have q0 : decide ((n : Int) > (m : Int)) = true := decide_eq_true (by omega)
    have q1 : decide (m < n) = true := decide_eq_true hbig
    have HF := Lib.hid (HP.out.trans (by rw [decide_eq_true hbig, Bool.true_or]))
    clear hbig hm hl HP
    go_wp2
    go_ret
    exact ⟨by rw [HF.out]; rfl, rfl⟩
  have q0 : decide ((n : Int) > (m : Int)) = false := decide_eq_false (by omega)
  have q1 : decide (m < n) = false := decide_eq_false hbig
  replace HP := Lib.hid (HP.out.trans (by rw [decide_eq_false hbig, Bool.false_or]))
  have hn9 : n ≤ 1000 := by omega
  clear hbig hm hl
  go_wp2_with fail
  go_loopw [5] (fun v wr => LpRel w l v wr) (fun v _ => n - (intOf v).toNat)
  case atStart => exact ⟨0, Nat.zero_le _, rfl, rfl, rfl⟩
  case round =>
    clear q0 q1
    obtain ⟨i, hi, rfl, htk, rfl⟩ := hrel
    rw [HN.out.1] at hi
    have HTK := Lib.hid htk
    clear htk
    by_cases hlt : i < n
    · have hil : i < l.length := by rw [HN.out.1]; exact hlt
      obtain ⟨b, off, rfl, -, hc⟩ := HN.out.2 (by omega)
      obtain ⟨A1, c1, A2, c2, d1, d2, -, hp⟩ := hc i hil
      have hs := Lib.hid (List.take_succ_eq_append_getElem hil)
      have hmem := Lib.hid (List.getElem_mem hil)
      have HB := Lib.hid (And.intro (Nat.le_trans hp.kc hp.km) (Nat.le_trans hp.vc hp.vm))
      clear hp
      generalize l[i] = p at d1 d2 hs hmem HB
      have hsx : Hid ((l.take (i + 1)).any plong = plong p) := Lib.hid (by rw [hs.out, List.any_append, HTK.out]; simp)
      have hno : Hid (plong p = true → R = true) := Lib.hid (fun e => by rw [HP.out]; exact List.any_eq_true.2 ⟨p, hmem.out, e⟩)
      unfold plong at hsx hno
      generalize p.1.length = x1 at d1 hsx hno HB
      generalize p.2.1.length = x2 at d2 hsx hno HB
      have hx1 := HB.out.1
      have hx2 := HB.out.2
      clear hc hs hmem HB
      by_cases g1 : 200 < x1
      · have p1 : decide ((x1 : Int) > 200) = true := decide_eq_true (by omega)
        have HF := Lib.hid (hno.out (by simp [g1]))
        clear g1 hno hsx hx1 hx2
        go_wp2
        go_ret
        exact ⟨by rw [HF.out]; rfl, rfl⟩
      have p1 : decide ((x1 : Int) > 200) = false := decide_eq_false (by omega)
      by_cases g2 : 200 < x2
      · have p2 : decide ((x2 : Int) > 200) = true := decide_eq_true (by omega)
        have HF := Lib.hid (hno.out (by rw [decide_eq_true g2, Bool.or_true]))
        clear g1 g2 hno hsx hx1 hx2
        go_wp2
        go_ret
        exact ⟨by rw [HF.out]; rfl, rfl⟩
      have p2 : decide ((x2 : Int) > 200) = false := decide_eq_false (by omega)
      have HX := Lib.hid (hsx.out.trans (by simp [g1, g2] : _ = false))
      clear g1 g2 hno hsx hx1 hx2
      go_wp2
      go_roundw
      case rel => exact ⟨i + 1, by omega, by go_num, HX.out, rfl⟩
      case measure => simp [intOf]; omega
    · obtain rfl : i = n := by omega
      have HF : Hid (R = false) := Lib.hid (by
        have := HTK.out
        rw [← HN.out.1, List.take_length] at this
        rw [HP.out, this])
      clear hi hlt
      go_wp2
      go_ret
      exact ⟨by rw [HF.out]; rfl, rfl⟩
/-- Ahead of each pair: those ahead of it are sorted. -/
def SoRel (w : World) (l : List PairT) (v : Value) (wr : World) : Prop := ∃ i : Nat, 1 ≤ i ∧ i ≤ l.length + 1 ∧ v = .int .i64 (i : Int) ∧ Below w.heap.size w wr ∧ ∀ (j : Nat) (h : j + 1 < l.length), j + 1 < i → (l[j]'(by omega)).1 < l[j + 1].1
theorem SoRel.drewN {w wr : World} {l : List PairT} {v : Value} (h : SoRel w l v wr) (n : Nat) : SoRel w l v (wr.drewN n) := by
  obtain ⟨i, h0, h1, h2, h3, h4⟩ := h
  exact ⟨i, h0, h1, h2, below_drewN h3 n, h4⟩
set_option maxRecDepth 100000 in
set_option maxHeartbeats 2000000 in
theorem sorted_any (A : Option Addr) (c : Nat) (l : List PairT) (hl : l.length ≤ 65536) (w : World) (h : Pairs w A l) :
    Calls Tryd.prog 46 #[.slice A l.length c] w fun e w' => e = .returned (.bool (psorted l)) ∧ Below w.heap.size w w' := by
  have HH := Lib.hid h
  clear h
  obtain ⟨q, hq⟩ : ∃ q, q = psorted l := ⟨_, rfl⟩
  rw [← hq]
  have HQ := Lib.hid hq
  clear hq
  go_enter Tryd.func46, Tryd.ntmps46
  go_wp2_with fail
  go_loopw [3] (fun v wr => SoRel w l v wr) (fun v _ => l.length + 1 - (intOf v).toNat)
  case atStart => exact ⟨1, Nat.le_refl _, by omega, rfl, Below.refl _ _, fun j _ h => absurd h (by omega)⟩
  case round =>
    obtain ⟨i, hi0, hi, rfl, hB, ht⟩ := hrel
    by_cases hlt : i < l.length
    case neg =>
      have hd : decide (i < l.length) = false := decide_eq_false hlt
      have he : q = true := by
        rw [HQ.out, psorted_iff]
        exact fun j hj => ht j hj (by omega)
      subst he
      have HB := Lib.hid hB
      clear ht hi hB hlt hi0
      go_wp2
      go_ret
      exact ⟨rfl, HB.out⟩
    have hd : decide (i < l.length) = true := decide_eq_true hlt
    have HL := Lib.hid (And.intro hlt (And.intro hi0 (show i - 1 < l.length by omega)))
    obtain ⟨b, off, hAe, -, hcb⟩ := (HH.out.below hB) (by omega)
    obtain ⟨A1, c1, A2, c2, d1, -, -, hp1⟩ := hcb (i - 1) HL.out.2.2
    obtain ⟨B1, e1, B2, e2, d4, -, -, hp2⟩ := hcb i hlt
    have kw : wrap64 ((i : Int) - 1) = ((i - 1 : Nat) : Int) := by rw [w64_in (by omega)]; omega
    obtain ⟨x, hx⟩ : ∃ x, x = (l[i - 1]'HL.out.2.2).1 := ⟨_, rfl⟩
    obtain ⟨y, hy⟩ : ∃ y, y = (l[i]'HL.out.1).1 := ⟨_, rfl⟩
    have hk1 := hp1.k
    have hk2 := hp2.k
    rw [← hx] at d1 hk1
    rw [← hy] at d4 hk2
    have HX := Lib.hid (And.intro hx (And.intro hy (And.intro ht (And.intro hB (And.intro hk1 hk2)))))
    have hk1' : i - 1 < l.length := HL.out.2.2
    subst hAe
    clear hcb hx hy ht hB hp1 hp2 hk1 hk2
    go_wp2_with fail
    refine wp_region_planT (fun w' => w'.cell? ⟨b, off + (i - 1) * 3, none⟩ = some (.slice A1 x.length c1) ∧ w'.cell? ⟨b, off + i * 3, none⟩ = some (.slice B1 y.length e1)) [] [(true, 0), (true, 1), (true, 2), (true, 3), (true, 4), (true, 6), (true, 7), (true, 8), (true, 9), (true, 5), (true, 10), (false, 11), (true, 12)] (by kernel_rfl) (by kernel_rfl) (⟨d1, d4⟩) ?_
    refine wpPlan_pure [0, 1, 2, 3, 4, 6, 7, 8, 9] [(true, 5), (true, 10), (false, 11), (true, 12)] _ (by rfl) (by rfl) ?_
    dsimp only [List.filterMap, List.getElem?_cons_zero, List.getElem?_cons_succ]
    repeat (go_big_quiet_step (fail))
    refine wpQuiet_nil ?_
    refine wpPlan_takeL [5, 10] [(false, 11), (true, 12)] _ (by rfl) (by rfl) (⟨d1, d4⟩) ?_
    dsimp only [List.filterMap, List.getElem?_cons_zero, List.getElem?_cons_succ]
    (refine wpQuiet_load_cell (fun w' hw' => hw'.1) (by rfl) _ _ (by rfl) (by rfl) _ Tryd.underlying22 (by rfl) ?_; simp only [Act.put, List.setIfInBounds_toArray, List.set_cons_zero, List.set_cons_succ])
    (refine wpQuiet_load_cell (fun w' hw' => hw'.2) (by rfl) _ _ (by rfl) (by rfl) _ Tryd.underlying22 (by rfl) ?_; simp only [Act.put, List.setIfInBounds_toArray, List.set_cons_zero, List.set_cons_succ])
    refine wpQuiet_nil ?_
    refine wpPlan_forceL _ rfl ?_
    go_wp2_with fail
    have hBd : Below wr.heap.size wr wr.drew := (Below.refl _ _).drew
    refine (compare_any A1 B1 x.length y.length c1 e1 x y rfl rfl wr.drew (Bytes.below HX.out.2.2.2.2.1 hBd) (Bytes.below HX.out.2.2.2.2.2 hBd)).mono ?_
    rintro z w2 ⟨rfl, hw⟩
    subst hw
    have HB2 := Lib.hid (HX.out.2.2.2.1.drew)
    have hc2 := And.intro d1 d4
    clear hBd d1 d4
    go_wp2_with fail
    refine PlanQ.in_ hc2 ?_
    refine wpPlan_pure [12] [] _ (by rfl) (by rfl) ?_
    dsimp only [List.filterMap, List.getElem?_cons_zero, List.getElem?_cons_succ]
    repeat (go_big_quiet_step (fail))
    refine wpQuiet_nil ?_
    refine wpPlan_tidy ?_
    clear hc2
    rw [cmp_ge0 x y]
    by_cases hxy : x < y
    · rw [decide_eq_true hxy]
      have hi65 : i < 65536 := by omega
      have HF := Lib.hid (show SoRel w l (.int .i64 ((i + 1 : Nat) : Int)) wr.drew from ⟨i + 1, by omega, by omega, rfl, HB2.out, fun j hj hji => by
        by_cases e : j + 1 = i
        · subst e
          have h1 := HX.out.1
          have h2 := HX.out.2.1
          simp only [Nat.add_sub_cancel] at h1
          rw [← h1, ← h2]; exact hxy
        · exact HX.out.2.2.1 j hj (by omega)⟩)
      have HL2 := Lib.hid hlt
      clear hi hxy hi0 hlt hk1'
      go_wp2
      go_roundw
      case rel => exact HF.out
      case measure => have := HL2.out; exact meas_up (i := i) (m := l.length + 1) rfl rfl (by omega)
    · rw [decide_eq_false hxy]
      have he : q = false := by
        rw [HQ.out]
        cases hs : psorted l
        · rfl
        · refine absurd ((psorted_iff l).1 hs (i - 1) (by omega)) (fun h => hxy ?_)
          rw [HX.out.1, HX.out.2.1]
          simpa only [show i - 1 + 1 = i by omega] using h
      subst he
      clear hi hxy hi0 hlt hk1'
      go_wp2
      go_ret
      exact ⟨rfl, HB2.out⟩
end Go.Proofs.YtgkljncigbiffaaDoor

/- A walk is stopped in an arm, and goes on in the open. Plain facts. No condition. -/
namespace Go.Proofs.YtgkljncigbiffaaDoor
structure Stopped (p : Prop) : Prop where
  go : p
theorem stopped {p : Prop} (h : Stopped p) : p := h.go
end Go.Proofs.YtgkljncigbiffaaDoor

/- A pair's bytes, by the program. Conditions: the pair may be and can be read. -/
namespace Go.Proofs.YtgkljncigbiffaaDoor
open Go.RowKit
theorem own_lit (w : World) (base : Nat) (hb : base ≤ w.heap.size) (x : UInt8) : OwnB 5 (w.alloc (.cells #[u8v x] 5)) base (.slice (some ⟨w.heap.size, 0, none⟩) 1 1) [x] [] := by
  have := OwnsC.lit (e := 5) (size := 1) (base := base) w #[u8v x] 1 hb (by simp [maxLen]) (by simp)
  exact this
theorem own_lit2 (w : World) (base n : Nat) (hn : n = w.heap.size) (hb : base ≤ n) (x : UInt8) : OwnB 5 (w.alloc (.cells #[u8v x] 5)) base (.slice (some ⟨n, 0, none⟩) 1 1) [x] [] := by
  subst hn; exact own_lit w base hb x
theorem lit_bytes (w : World) (x : UInt8) : Bytes (w.alloc (.cells #[u8v x] 5)) (some ⟨w.heap.size, 0, none⟩) [x] := bytes_lit w 5 [x]
theorem u8_nat {n : Nat} (h : n < 256) : Value.int .u8 (n : Int) = u8v (UInt8.ofNat n) := (u8_of h).symm
theorem own_litN (w : World) (base m n : Nat) (hm : m = w.heap.size) (hb : base ≤ m) (hn : n < 256) : OwnB 5 (w.alloc (.cells #[.int .u8 (n : Int)] 5)) base (.slice (some ⟨m, 0, none⟩) 1 1) [UInt8.ofNat n] [] := by
  rw [u8_nat hn]; exact own_lit2 w base m hm hb _
theorem lit_bytesN (w : World) (m n : Nat) (hm : m = w.heap.size) (hn : n < 256) : Bytes (w.alloc (.cells #[.int .u8 (n : Int)] 5)) (some ⟨m, 0, none⟩) [UInt8.ofNat n] := by
  subst hm; rw [u8_nat hn]; exact lit_bytes w _
set_option maxRecDepth 100000 in
set_option maxHeartbeats 2000000 in
theorem bytesOf_any (p : PairT) (A B : Option Addr) (c e : Nat) (w : World) (hok : pok p = true) (h : PairAt w p A c B e) :
    Calls Tryd.prog 97 #[.agg (pairc p A c B e)] w fun x w' => ∃ v sp, x = .returned v ∧ OwnB 5 w' w.heap.size v (pbytes p) sp ∧ Below w.heap.size w w' := by
  obtain ⟨k1, k2, k3, k4⟩ := pok_spec hok
  have hB0 := (Below.refl w.heap.size w).alloc (Nat.le_refl _) (.cells (pairc p A c B e) 40)
  have hg1 := Blk.new w 40 (pairc p A c B e)
  have hh := h.below hB0
  unfold pairc at hg1 hB0 hh ⊢
  have d1 := hg1.at_ 0 (v := .slice A p.1.length c) rfl
  have d2 := hg1.at_ 1 (v := .slice B p.2.1.length e) rfl
  have d3 := hg1.at_ 2 (v := .bool p.2.2.1) rfl
  have H0 := Lib.hid (And.intro hB0 (And.intro hh (And.intro hg1 (And.intro k2 (And.intro k3 (And.intro k4 h))))))
  have hk : p.1.length < 256 := by omega
  have hv : p.2.1.length < 256 := by omega
  clear hB0 hg1 hh hok k1 k2 k3 k4 h
  go_enter Tryd.func97, Tryd.ntmps97
  have hB1 := ((Below.refl w.heap.size w).alloc (Nat.le_refl _) (.cells #[.slice A p.1.length c, .slice B p.2.1.length e, .bool p.2.2.1] 40)).alloc (by simp) (.cells #[.int .u8 (p.1.length : Int)] 5)
  have hk2 := Bytes.below H0.out.2.1.k ((Below.refl _ _).alloc (Nat.le_refl _) (.cells #[.int .u8 (p.1.length : Int)] 5))
  have hg2 := H0.out.2.2.1.alloc (.cells #[.int .u8 (p.1.length : Int)] 5)
  have H1 := Lib.hid (And.intro hB1 (And.intro hk2 hg2))
  clear hB1 hk2 hg2
  go_wp2_with (first
    | ((with_reducible show wpList _ _ _ ((⟨some 11, _, _, _, _, _⟩ : Oper) :: _) _ _); refine wpList_append_bytes (o := ⟨some 11, _, _, _, _, _⟩) (by rfl) _ _ _ (by rfl) (w.heap.size) _ Tryd.underlying22 u8info (.slice (some ⟨w.heap.size + 1, 0, none⟩) 1 1) ([UInt8.ofNat p.1.length]) ([]) (by rfl) (own_litN _ _ _ _ (by simp) (Nat.le_succ _) hk) (A) (c) (p.1) (by first | rfl | simp) (H1.out.2.1) (by first | omega | (simp; omega)) (by (simp; omega)) ?_; intro v1 w1 sp1 ho1 hg1 _ _; refine stopped ?_)
    | fail)
  refine Stopped.mk ?_
  have hB1 := H1.out.1.grown hg1 (by simp; omega) (fun k hk => by simp [Value.ownBlock] at hk; omega)
  have hn1 : Near [w.heap.size + 1] _ w1 := Near.grown hg1 (fun x hx => by simpa [Value.ownBlock] using hx.symm)
  have hg3 := H1.out.2.2.near hn1 (by simp)
  have hv3 : Bytes w1 B p.2.1 := Bytes.below H0.out.2.2.2.2.2.2.v hB1
  have H2 := Lib.hid (And.intro hB1 (And.intro hg3 (And.intro hv3 ho1)))
  have d4 := hg3.at_ 2 (v := .bool p.2.2.1) rfl
  have d5 := hg3.at_ 1 (v := .slice B p.2.1.length e) rfl
  have hsz1 : w.heap.size + 1 ≤ w1.heap.size := Nat.le_trans (by simp) hn1.size
  obtain ⟨A1, c1, rfl, -, -, -⟩ := OwnB.open_ ho1
  clear hB1 hn1 hg3 hv3 ho1 hg1 H1 d1 d2 d3
  cases hgone : p.2.2.1
  case true =>
    have he := H0.out.2.2.2.2.2.1 hgone
    rw [hgone] at d4
    have HG := Lib.hid (And.intro hgone he)
    have ho2 := H2.out.2.2.2.alloc (.cells #[.int .u8 255] 5)
    have hb2 : Bytes (w1.alloc (.cells #[.int .u8 255] 5)) (some ⟨w1.heap.size, 0, none⟩) [255] := lit_bytes w1 255
    have H3 := Lib.hid (And.intro ho2 (And.intro hb2 (H2.out.1.alloc (by omega) (.cells #[.int .u8 255] 5))))
    clear hgone he ho2 hb2
    go_wp2_with (first
      | ((with_reducible show wpList _ _ _ ((⟨some 16, _, _, _, _, _⟩ : Oper) :: _) _ _); refine wpList_append_bytes (o := ⟨some 16, _, _, _, _, _⟩) (by rfl) _ _ _ (by rfl) (w.heap.size) _ Tryd.underlying22 u8info (_) ([UInt8.ofNat p.1.length] ++ p.1) (sp1) (by rfl) (H3.out.1) (some ⟨w1.heap.size, 0, none⟩) (1) ([255]) (by first | rfl | simp) (H3.out.2.1) (by first | omega | (simp; omega)) (by (simp; omega)) ?_; intro v2 w2 sp2 ho2 hg2 _ _; refine stopped ?_)
      | fail)
    refine Stopped.mk ?_
    have hB4 := H3.out.2.2.grown hg2 (by simp; omega) (fun k hk => (OwnsC.lt H3.out.1 k hk).1)
    have H4 := Lib.hid (And.intro ho2 hB4)
    clear ho2 hB4 hg2
    go_wp2_with fail
    go_ret
    refine ⟨v2, sp2, rfl, ?_, H4.out.2⟩
    have e : pbytes p = [UInt8.ofNat p.1.length] ++ p.1 ++ [255] := by unfold pbytes; rw [HG.out.1, if_pos rfl]; rfl
    rw [e]; exact H4.out.1
  case false =>
    rw [hgone] at d4
    have HG := Lib.hid hgone
    clear hgone
    go_wp2_with fail
    refine wp_region_tree (fun w' => w'.cell? ⟨w.heap.size, 1, none⟩ = some (.slice B p.2.1.length e)) [] (PlanT.takes [0, 1, 7] (PlanT.takes [2, 8] (PlanT.takes [3, 4] (.opt 5 (.opt 6 (.opt 9 (PlanT.takes [10] .done) .no) .no) .no)))) (by kernel_rfl) (by kernel_rfl) (d5) ?_
    refine wpTree_pure _ _ _ (by rfl) (by rfl) ?_
    dsimp only [List.filterMap, List.getElem?_cons_zero, List.getElem?_cons_succ]
    repeat (go_big_quiet_step (fail))
    refine wpQuiet_nil ?_
    refine wpTree_takeL _ _ _ (by rfl) (by rfl) (d5) ?_
    dsimp only [List.filterMap, List.getElem?_cons_zero, List.getElem?_cons_succ]
    (refine wpQuiet_load_cell (fun w' hw' => hw') (by rfl) _ _ (by rfl) (by rfl) _ Tryd.underlying22 (by rfl) ?_; simp only [Act.put, List.setIfInBounds_toArray, List.set_cons_zero, List.set_cons_succ])
    (refine wpQuiet_load_cell (fun w' hw' => hw') (by rfl) _ _ (by rfl) (by rfl) _ Tryd.underlying22 (by rfl) ?_; simp only [Act.put, List.setIfInBounds_toArray, List.set_cons_zero, List.set_cons_succ])
    refine wpQuiet_nil ?_
    refine wpTree_pure _ _ _ (by rfl) (by rfl) ?_
    dsimp only [List.filterMap, List.getElem?_cons_zero, List.getElem?_cons_succ]
    repeat (go_big_quiet_step (fail))
    refine wpQuiet_nil ?_
    refine wpTree_one _ rfl ?_
    go_wp2_with fail
    have hbw : Below w1.heap.size w1 (w1.alloc (.cells #[.int .u8 (p.2.1.length : Int)] 5)).drew := ((Below.refl w1.heap.size w1).alloc (Nat.le_refl _) _).drew
    have ho2 := OwnsC.ownBelow H2.out.2.2.2 hbw
    have hb2 : Bytes (w1.alloc (.cells #[.int .u8 (p.2.1.length : Int)] 5)).drew (some ⟨w1.heap.size, 0, none⟩) [UInt8.ofNat p.2.1.length] := lit_bytesN w1 _ _ rfl hv
    have hB2 : Below w.heap.size w (w1.alloc (.cells #[.int .u8 (p.2.1.length : Int)] 5)).drew := H2.out.1.trans (hbw.mono H2.out.1.size)
    have hv2 := Bytes.below H0.out.2.2.2.2.2.2.v hB2
    have hg2 := H2.out.2.1.below hbw H2.out.2.1.lt
    have d6 := hg2.at_ 1 (v := .slice B p.2.1.length e) rfl
    have hs2 : w.heap.size ≤ (w1.alloc (.cells #[.int .u8 (p.2.1.length : Int)] 5)).drew.heap.size := hB2.size
    have H3 := Lib.hid (And.intro ho2 (And.intro hb2 (And.intro hB2 (And.intro hv2 (And.intro hg2 hs2)))))
    clear hbw ho2 hb2 hB2 hv2 hg2 d5 d4 hs2
    generalize (w1.alloc (.cells #[.int .u8 (p.2.1.length : Int)] 5)).drew = w2 at H3 d6 ⊢
    refine TreeQ.in_ d6 ?_
    refine wpTree_one _ rfl ?_
    go_wp2_with (first
      | ((with_reducible show wpList _ _ _ ((⟨some 23, _, _, _, _, _⟩ : Oper) :: _) _ _); refine wpList_append_bytes (o := ⟨some 23, _, _, _, _, _⟩) (by rfl) _ _ _ (by rfl) (w.heap.size) _ Tryd.underlying22 u8info (_) ([UInt8.ofNat p.1.length] ++ p.1) (sp1) (by rfl) (H3.out.1) (some ⟨w1.heap.size, 0, none⟩) (1) ([UInt8.ofNat p.2.1.length]) (by first | rfl | simp) (H3.out.2.1) (by first | omega | (simp; omega)) (H3.out.2.2.2.2.2) ?_; intro v2 w3 sp2 ho3 hg3 _ _; refine stopped ?_)
      | fail)
    refine Stopped.mk ?_
    have hB3 := H3.out.2.2.1.grown hg3 H3.out.2.2.2.2.2 (fun k hk => (OwnsC.lt H3.out.1 k hk).1)
    have hv3 := Bytes.below H0.out.2.2.2.2.2.2.v hB3
    have hb3 := H3.out.2.2.2.2.1.near (Near.grown hg3 (fun x hx => Option.mem_toList.2 hx)) (fun hm => by
      obtain ⟨cs, hb⟩ := ownBlk H3.out.1 (Option.mem_toList.1 hm)
      exact H3.out.2.2.2.2.1.apart hb (by decide) rfl)
    have d7 := hb3.at_ 1 (v := .slice B p.2.1.length e) rfl
    obtain ⟨A3, c3, rfl, -, -, -⟩ := OwnB.open_ ho3
    have H4 := Lib.hid (And.intro ho3 (And.intro hB3 (And.intro hv3 hb3)))
    clear ho3 hB3 hv3 hg3 hb3 d6 H3
    go_wp2_with fail
    refine TreeQ.in_ d7 ?_
    refine wpTree_one _ rfl ?_
    go_wp2_with (first
      | ((with_reducible show wpList _ _ _ ((⟨some 26, _, _, _, _, _⟩ : Oper) :: _) _ _); refine wpList_append_bytes (o := ⟨some 26, _, _, _, _, _⟩) (by rfl) _ _ _ (by rfl) (w.heap.size) _ Tryd.underlying22 u8info (_) ([UInt8.ofNat p.1.length] ++ p.1 ++ [UInt8.ofNat p.2.1.length]) (sp2) (by rfl) (H4.out.1) (B) (e) (p.2.1) (by first | rfl | simp) (H4.out.2.2.1) (by first | omega | (simp; omega)) (H4.out.2.1.size) ?_; intro v4 w4 sp4 ho4 hg4 _ _; refine stopped ?_)
      | fail)
    refine Stopped.mk ?_
    have hB4 := H4.out.2.1.grown hg4 H4.out.2.1.size (fun k hk => (OwnsC.lt H4.out.1 k hk).1)
    have d8 := (H4.out.2.2.2.near (Near.grown hg4 (fun x hx => Option.mem_toList.2 hx)) (fun hm => by
      obtain ⟨cs, hb⟩ := ownBlk H4.out.1 (Option.mem_toList.1 hm)
      exact H4.out.2.2.2.apart hb (by decide) rfl)).at_ 1 (v := .slice B p.2.1.length e) rfl
    have H5 := Lib.hid (And.intro ho4 hB4)
    clear ho4 hB4 hg4 H4 d7
    go_wp2_with fail
    refine TreeQ.in_ d8 ?_
    refine wpTree_pure _ _ _ (by rfl) (by rfl) ?_
    dsimp only [List.filterMap, List.getElem?_cons_zero, List.getElem?_cons_succ]
    repeat (go_big_quiet_step (fail))
    refine wpQuiet_nil ?_
    refine wpTree_done ?_
    go_wp2_with fail
    go_ret
    refine ⟨v4, sp4, rfl, ?_, H5.out.2⟩
    have e : pbytes p = [UInt8.ofNat p.1.length] ++ p.1 ++ [UInt8.ofNat p.2.1.length] ++ p.2.1 := by unfold pbytes; rw [HG.out, if_neg (by simp)]; simp
    rw [e]; exact H5.out.1
end Go.Proofs.YtgkljncigbiffaaDoor

/- The bodies and the first keys of data blocks, as they are put together. Plain facts of this program. No condition. -/
namespace Go.Proofs.YtgkljncigbiffaaDoor
open Go.RowKit
/-- The bodies of groups, each in memory of its own. -/
structure BodsAt (w : World) (base : Nat) (v : Value) (G : List (List PairT)) (bs sp : List Value) : Prop where
  own : OwnsC 22 1 w base v G.length bs sp
  each : ∀ (i : Nat) (g : List PairT), G[i]? = some g → ∃ (u : Value) (s : List UInt8), bs[i]? = some u ∧ OwnB 5 w base u (gbody g) s
  apart : ∀ (i j : Nat) (u u' : Value) (x : Nat), i ≠ j → bs[i]? = some u → bs[j]? = some u' → u.ownBlock = some x → u'.ownBlock ≠ some x
/-- The first keys of groups: they lie where they came from. -/
structure KeysN (N : Nat → Prop) (w : World) (base : Nat) (v : Value) (G : List (List PairT)) (ks sp : List Value) : Prop where
  own : OwnsC 22 1 w base v G.length ks sp
  each : ∀ (i : Nat) (g : List PairT), G[i]? = some g → ∃ (A : Option Addr) (c : Nat), ks[i]? = some (.slice A (gkey g).length c) ∧ (gkey g).length ≤ c ∧ c ≤ 9223372036854775807 ∧ Bytes w A (gkey g) ∧ ∀ ad, A = some ad → ad.block < base ∧ N ad.block
abbrev KeysAt : World → Nat → Value → List (List PairT) → List Value → List Value → Prop := KeysN fun _ => True
section
variable {N : Nat → Prop} {w w' : World} {base : Nat} {v v' : Value} {G : List (List PairT)} {bs sp ks : List Value} {X : List Nat}
theorem BodsAt.len (h : BodsAt w base v G bs sp) : bs.length = G.length := by rw [OwnsC.length h.own, Nat.mul_one]
theorem BodsAt.u8 (h : BodsAt w base v G bs sp) {i : Nat} {u : Value} (hu : bs[i]? = some u) {x : Nat} (hx : u.ownBlock = some x) : ∃ cs, Blk w x 5 cs := by
  have hi : i < G.length := by rw [← h.len]; exact (List.getElem?_eq_some_iff.1 hu).1
  obtain ⟨u', s, h1, h2⟩ := h.each i _ (List.getElem?_eq_getElem hi)
  rw [hu] at h1; injection h1 with h1; subst h1
  exact ownBlk h2 hx
theorem BodsAt.near (h : BodsAt w base v G bs sp) (k : Near X w w') (h1 : ∀ x, v.ownBlock = some x → x ∉ X) (h2 : ∀ (i : Nat) (u : Value) (x : Nat), bs[i]? = some u → u.ownBlock = some x → x ∉ X) : BodsAt w' base v G bs sp :=
  ⟨OwnsC.nearO h.own k h1, fun i g hg => by
    obtain ⟨u, s, e1, e2⟩ := h.each i g hg
    exact ⟨u, s, e1, OwnsC.nearO e2 k (fun x hx => h2 i u x e1 hx)⟩, h.apart⟩
theorem BodsAt.below (h : BodsAt w base v G bs sp) (k : Below w.heap.size w w') : BodsAt w' base v G bs sp := h.near (X := []) (Near.below k) (by simp) (by simp)
theorem KeysN.near (h : KeysN N w base v G ks sp) (k : Near X w w') (h1 : ∀ x, v.ownBlock = some x → x ∉ X) (h2 : ∀ x ∈ X, base ≤ x) : KeysN N w' base v G ks sp :=
  ⟨OwnsC.nearO h.own k h1, fun i g hg => by
    obtain ⟨A, c, e1, e2, e3, e4, e5⟩ := h.each i g hg
    exact ⟨A, c, e1, e2, e3, Bytes.near e4 k (fun ad e hx => by have := (e5 ad e).1; have := h2 _ hx; omega), e5⟩⟩
theorem KeysN.below (h : KeysN N w base v G ks sp) (k : Below w.heap.size w w') : KeysN N w' base v G ks sp := h.near (X := []) (Near.below k) (by simp) (by simp)
/-- A new body. -/
theorem BodsAt.add (h : BodsAt w base v G bs sp) {p : PairT} {u : Value} {sp' : List Value} {s8 : List UInt8} (hu : OwnB 5 w base u (pbytes p) s8) (hn : ∀ (i : Nat) (b : Value) (x : Nat), bs[i]? = some b → b.ownBlock = some x → u.ownBlock ≠ some x)
    (hg : Near v.ownBlock.toList w w') (ho : OwnsC 22 1 w' base v' (G.length + 1) (bs ++ [u]) sp') : BodsAt w' base v' (G ++ [[p]]) (bs ++ [u]) sp' := by
  have hx : ∀ x, v.ownBlock = some x → ∃ cs, Blk w x 22 cs := fun x hx => ownBlk h.own hx
  have off : ∀ x, (∃ cs, Blk w x 5 cs) → x ∉ v.ownBlock.toList := fun x ⟨cs, hb⟩ hm => by
    obtain ⟨cs', hb'⟩ := hx x (Option.mem_toList.1 hm)
    exact hb.apart hb' (by decide) rfl
  have hlen := h.len
  refine ⟨by rw [List.length_append]; exact ho, fun i g hgi => ?_, fun i j a b x hij ha hb hxa hxb => ?_⟩
  · rw [List.getElem?_append] at hgi
    split at hgi
    · rename_i hi
      obtain ⟨u', s', e1, e2⟩ := h.each i g hgi
      refine ⟨u', s', by rw [List.getElem?_append_left (by omega)]; exact e1, OwnsC.nearO e2 hg (fun x hx => off x (ownBlk e2 hx))⟩
    · rename_i hi
      have : i = G.length := by
        have := (List.getElem?_eq_some_iff.1 hgi).1
        simp only [List.length_singleton] at this; omega
      subst this
      rw [Nat.sub_self] at hgi
      injection hgi with hgi
      subst hgi
      refine ⟨u, s8, by rw [← hlen, List.getElem?_append_right (Nat.le_refl _), Nat.sub_self]; rfl, ?_⟩
      rw [gbody_one]
      exact OwnsC.nearO hu hg (fun x hx => off x (ownBlk hu hx))
  · have key : ∀ {i : Nat} {b : Value}, (bs ++ [u])[i]? = some b → bs[i]? = some b ∨ (i = bs.length ∧ b = u) := fun {i b} hb => by
      rw [List.getElem?_append] at hb
      split at hb
      · exact .inl hb
      · rename_i hi
        have : i = bs.length := by
          have := (List.getElem?_eq_some_iff.1 hb).1
          simp only [List.length_singleton] at this; omega
        subst this
        rw [Nat.sub_self] at hb
        injection hb with hb
        exact .inr ⟨rfl, hb.symm⟩
    rcases key ha with ha | ⟨ei, ea⟩ <;> rcases key hb with hb | ⟨ej, eb⟩
    · exact h.apart i j a b x hij ha hb hxa hxb
    · rw [eb] at hxb; exact hn i a x ha hxa hxb
    · rw [ea] at hxa; exact hn j b x hb hxb hxa
    · omega
theorem KeysN.add (h : KeysN N w base v G ks sp) {p : PairT} {A : Option Addr} {c : Nat} {sp' : List Value} (h1 : p.1.length ≤ c) (h2 : c ≤ 9223372036854775807) (hb : Bytes w A p.1) (hA : ∀ ad, A = some ad → ad.block < base ∧ N ad.block)
    (hg : Near v.ownBlock.toList w w') (ho : OwnsC 22 1 w' base v' (G.length + 1) (ks ++ [.slice A p.1.length c]) sp') : KeysN N w' base v' (G ++ [[p]]) (ks ++ [.slice A p.1.length c]) sp' := by
  have hlen : ks.length = G.length := by rw [OwnsC.length h.own, Nat.mul_one]
  have hlow : ∀ x ∈ v.ownBlock.toList, base ≤ x := fun x hx => (OwnsC.lt h.own x (Option.mem_toList.1 hx)).1
  refine ⟨by rw [List.length_append]; exact ho, fun i g hgi => ?_⟩
  rw [List.getElem?_append] at hgi
  split at hgi
  · obtain ⟨A', c', e1, e2, e3, e4, e5⟩ := h.each i g hgi
    exact ⟨A', c', by rw [List.getElem?_append_left (by omega)]; exact e1, e2, e3, Bytes.near e4 hg (fun ad e hx => by have := (e5 ad e).1; have := hlow _ hx; omega), e5⟩
  · have : i = G.length := by
      have := (List.getElem?_eq_some_iff.1 hgi).1
      simp only [List.length_singleton] at this; omega
    subst this
    rw [Nat.sub_self] at hgi
    injection hgi with hgi
    subst hgi
    exact ⟨A, c, by rw [← hlen, List.getElem?_append_right (Nat.le_refl _), Nat.sub_self]; rfl, h1, h2, Bytes.near hb hg (fun ad e hx => by have := hA ad e; have := hlow _ hx; omega), hA⟩
/-- The last body has grown. -/
theorem BodsAt.more {g : List PairT} (h : BodsAt w base v (G ++ [g]) bs sp) {p : PairT} {u u' : Value} {s8 : List UInt8} (hu : bs[G.length]? = some u) (hu' : OwnB 5 w' base u' (gbody g ++ pbytes p) s8) (hnew : u'.ownBlock = u.ownBlock ∨ u'.ownBlock = some w.heap.size)
    (hg : Near u.ownBlock.toList w w') {gb : Nat} (hv : v.ownBlock = some gb) : BodsAt (w'.setCell ⟨gb, G.length, none⟩ u') base v (G ++ [g ++ [p]]) (bs.set G.length u') sp := by
  have hlen := h.len
  rw [List.length_append, List.length_singleton] at hlen
  obtain ⟨csv, hvb⟩ := ownBlk h.own hv
  have off : ∀ x, (∃ cs, Blk w x 5 cs) → x ≠ gb := fun x ⟨cs, hb⟩ e => by subst e; exact hb.apart hvb (by decide) rfl
  have hux : ∀ x, u'.ownBlock = some x → ∃ cs, Blk w' x 5 cs := fun x hx => ownBlk hu' hx
  have hne : ∀ (i : Nat) (b : Value) (x : Nat), i ≠ G.length → bs[i]? = some b → b.ownBlock = some x → x ∉ u.ownBlock.toList ∧ u'.ownBlock ≠ some x := fun i b x hi hb hx => by
    have h0 : u.ownBlock ≠ some x := h.apart i G.length b u x hi hb hu hx
    refine ⟨fun hm => h0 (Option.mem_toList.1 hm), fun e => ?_⟩
    rcases hnew with e2 | e2
    · exact h0 (e2 ▸ e)
    · obtain ⟨cs, hbk⟩ := h.u8 hb hx
      rw [e2] at e; injection e with e
      have := hbk.lt; omega
  have hgu : gb ∉ u.ownBlock.toList := fun hm => off _ (h.u8 hu (Option.mem_toList.1 hm)) rfl
  have hvo : OwnsC 22 1 (w'.setCell ⟨gb, G.length, none⟩ u') base v (G.length + 1) (bs.set G.length u') sp := by
    have ho := h.own
    rw [List.length_append, List.length_singleton] at ho
    rcases ho with ⟨rfl, h0, _⟩ | ⟨g', cap, rfl, hb, hgg, hnc, hcm, hxl, hsl⟩
    · omega
    · have hv' : g' = gb := by simpa [Value.ownBlock] using hv
      subst hv'
      refine .inr ⟨g', cap, rfl, hb, ?_, hnc, hcm, by rw [List.length_set]; exact hxl, hsl⟩
      refine ((hgg.near hg hgu).set_ G.length u').sub ?_
      rw [List.setIfInBounds_toArray, List.set_append_left _ _ (by omega)]
  refine ⟨by rw [List.length_append]; exact hvo, fun i k hi => ?_, fun i j a b x hij ha hb hxa hxb => ?_⟩
  · rw [List.getElem?_append] at hi
    split at hi
    · rename_i hlt
      obtain ⟨b, s, e1, e2⟩ := h.each i k (by rw [List.getElem?_append_left hlt]; exact hi)
      refine ⟨b, s, by rw [List.getElem?_set_ne (by omega)]; exact e1, OwnsC.off (OwnsC.nearO e2 hg (fun x hx => (hne i b x (by omega) e1 hx).1)) (fun e => off gb (h.u8 e1 e) rfl) u'⟩
    · have : i = G.length := by
        have := (List.getElem?_eq_some_iff.1 hi).1
        simp only [List.length_singleton] at this; omega
      subst this
      rw [Nat.sub_self] at hi
      injection hi with hi
      subst hi
      refine ⟨u', s8, by rw [List.getElem?_set_self (by omega)], ?_⟩
      rw [gbody_append, gbody_one]
      refine OwnsC.off hu' (fun e => ?_) u'
      obtain ⟨cs, hbk⟩ := hux gb e
      exact hbk.apart (hvb.near hg hgu) (by decide) rfl
  · by_cases hi : i = G.length
    · subst hi
      rw [List.getElem?_set_self (by omega)] at ha
      injection ha with ha
      subst ha
      rw [List.getElem?_set_ne hij] at hb
      exact (hne j b x (fun e => hij e.symm) hb hxb).2 hxa
    · rw [List.getElem?_set_ne (fun e => hi e.symm)] at ha
      by_cases hj : j = G.length
      · subst hj
        rw [List.getElem?_set_self (by omega)] at hb
        injection hb with hb
        subst hb
        exact (hne i a x hi ha hxa).2 hxb
      · rw [List.getElem?_set_ne (fun e => hj e.symm)] at hb
        exact h.apart i j a b x hij ha hb hxa hxb
end
end Go.Proofs.YtgkljncigbiffaaDoor

/- A region that draws its order of two rows of operations, each row in its own order: how far each has come is all that is asked. Plain facts over any program. No condition. -/
namespace Go
def PlanT.chainsA (i : Nat) (f : List Nat → PlanT) : List Nat → PlanT
  | [] => .opt i (f []) .no
  | j :: js => if i < j then .opt i (f (j :: js)) (.opt j (PlanT.chainsA i f js) .no) else .opt j (PlanT.chainsA i f js) (.opt i (f (j :: js)) .no)
/-- Two rows of operations, in all orders, and then t. -/
def PlanT.chains (t : PlanT) : List Nat → List Nat → PlanT
  | [], js => js.foldr (fun j t => .opt j t .no) t
  | i :: is, js => PlanT.chainsA i (PlanT.chains t is) js
section
variable {P : Program} {C : World → Prop} {Z : List Nat} {Q : Exit → Act → World → Prop}
/-- What is asked behind an operation. -/
def StepQ (R : Act → World → Prop) (Q : Exit → Act → World → Prop) : Exit → Act → World → Prop
  | .normal, a, w => R a w
  | e, a, w => Q e a w
theorem wpOp_of_list {l : List Oper} {a : Act} {w : World} {i : Nat} {R : Act → World → Prop} (o : Oper) (ho : l[i]? = some o) (h : wpList P l.toArray (StepQ R Q) [o] a w) : wpOp P l.toArray Q i R a w := by
  have ho' : l.toArray[i]? = some o := by rw [List.getElem?_toArray]; exact ho
  unfold wpOp
  simp only [ho']
  unfold wpList at h
  have hmono : ∀ {a : Act} {w : World}, o.wp P a w (wpList P l.toArray (StepQ R Q) []) (StepQ R Q) → o.wp P a w R Q := by
    intro a w h
    unfold Oper.wp at h ⊢
    generalize (execOp a.eval o).run P w = rr at *
    cases rr with
    | ok n w' =>
      cases n <;> simp only [Oper.upon] at h ⊢
      case value u => exact h
      case skip => exact h
      case defer d => exact h
      case enter f args =>
        refine Calls.mono h fun e w'' he => ?_
        cases e <;> exact he
      case row row args => exact Rows.mono h fun u w'' he => he
    | halt x w' => cases x <;> simp only [Oper.upon] at h ⊢; exact h
  split
  · rename_i hw
    rw [if_pos hw] at h
    rcases h with h | ⟨h1, h2⟩
    · exact .inl (hmono h)
    · exact .inr ⟨h1, h2⟩
  · rename_i hw
    rw [if_neg hw] at h
    exact h
theorem wpTree_op {l : List Oper} {a : Act} {w : World} {i : Nat} {r m : PlanT} (h : wpOp P l.toArray Q i (fun a' w' => C w' ∧ wpTree P l.toArray C Z Q r a' w') a w) (hm : wpTree P l.toArray C Z Q m a w) : wpTree P l.toArray C Z Q (.opt i r m) a w :=
  ⟨wpOp_mono (fun _ _ h' => ⟨.inr h'.1, h'.2⟩) h, hm⟩
/-- **TWO ROWS**: R says what holds when so many of each are done. -/
theorem wpTree_chains {l : List Oper} (t : PlanT) (c1 c2 : List Nat) (R : Nat → Nat → Act → World → Prop)
    (h1 : ∀ (i j : Nat) (a : Act) (w : World), (hi : i < c1.length) → j ≤ c2.length → R i j a w → wpOp P l.toArray Q c1[i] (R (i + 1) j) a w)
    (h2 : ∀ (i j : Nat) (a : Act) (w : World), i ≤ c1.length → (hj : j < c2.length) → R i j a w → wpOp P l.toArray Q c2[j] (R i (j + 1)) a w)
    (hC : ∀ (i j : Nat) (a : Act) (w : World), R i j a w → C w) (hend : ∀ a w, R c1.length c2.length a w → wpTree P l.toArray C Z Q t a w) :
    ∀ (a : Act) (w : World), R 0 0 a w → wpTree P l.toArray C Z Q (PlanT.chains t c1 c2) a w := by
  have none1 : ∀ (js : List Nat) (j : Nat) (a : Act) (w : World), j ≤ c2.length → c2.drop j = js → R c1.length j a w → wpTree P l.toArray C Z Q (js.foldr (fun j t => .opt j t .no) t) a w := by
    intro js
    induction js with
    | nil =>
      intro j a w hj hd hR
      obtain rfl : j = c2.length := by have := congrArg List.length hd; rw [List.length_drop, List.length_nil] at this; omega
      exact hend a w hR
    | cons x js ih =>
      intro j a w hj hd hR
      have hlt : j < c2.length := by have := congrArg List.length hd; rw [List.length_drop, List.length_cons] at this; omega
      rw [List.drop_eq_getElem_cons hlt] at hd
      injection hd with e1 e2
      subst e1
      exact wpTree_op (wpOp_mono (fun a' w' h' => ⟨hC _ _ _ _ h', ih (j + 1) a' w' hlt e2 h'⟩) (h2 c1.length j a w (Nat.le_refl _) hlt hR)) trivial
  have main : ∀ (is : List Nat) (i : Nat), i ≤ c1.length → c1.drop i = is → ∀ (js : List Nat) (j : Nat) (a : Act) (w : World), j ≤ c2.length → c2.drop j = js → R i j a w → wpTree P l.toArray C Z Q (PlanT.chains t is js) a w := by
    intro is
    induction is with
    | nil =>
      intro i hi hd js j a w hj hdj hR
      obtain rfl : i = c1.length := by have := congrArg List.length hd; rw [List.length_drop, List.length_nil] at this; omega
      exact none1 js j a w hj hdj hR
    | cons x is ih =>
      intro i hi hd
      have hlt : i < c1.length := by have := congrArg List.length hd; rw [List.length_drop, List.length_cons] at this; omega
      rw [List.drop_eq_getElem_cons hlt] at hd
      injection hd with e1 e2
      subst e1
      intro js
      induction js with
      | nil =>
        intro j a w hj hdj hR
        exact wpTree_op (wpOp_mono (fun a' w' h' => ⟨hC _ _ _ _ h', ih (i + 1) hlt e2 [] j a' w' hj hdj h'⟩) (h1 i j a w hlt hj hR)) trivial
      | cons y js ihj =>
        intro j a w hj hdj hR
        have hltj : j < c2.length := by have := congrArg List.length hdj; rw [List.length_drop, List.length_cons] at this; omega
        have hdj0 := hdj
        rw [List.drop_eq_getElem_cons hltj] at hdj
        injection hdj with e3 e4
        subst e3
        have k1 := wpOp_mono (fun a' w' h' => And.intro (hC _ _ _ _ h') (ih (i + 1) hlt e2 (c2[j] :: js) j a' w' hj hdj0 h')) (h1 i j a w hlt hj hR)
        have k2 := wpOp_mono (fun a' w' h' => And.intro (hC _ _ _ _ h') (ihj (j + 1) a' w' hltj e4 h')) (h2 i j a w hi hltj hR)
        show wpTree P l.toArray C Z Q (if c1[i] < c2[j] then _ else _) a w
        split
        · exact wpTree_op k1 (wpTree_op k2 trivial)
        · exact wpTree_op k2 (wpTree_op k1 trivial)
  exact fun a w hR => main c1 0 (Nat.zero_le _) rfl c2 0 a w (Nat.zero_le _) rfl hR
/-- The same, where R speaks of the frame ahead of both rows. -/
theorem wpTree_rows {l : List Oper} (t : PlanT) (c1 c2 : List Nat) (R : Act → Nat → Nat → Act → World → Prop) (a : Act) (w : World) (h0 : R a 0 0 a w)
    (h1 : ∀ (i j : Nat) (a' : Act) (w' : World), (hi : i < c1.length) → j ≤ c2.length → R a i j a' w' → wpOp P l.toArray Q c1[i] (R a (i + 1) j) a' w')
    (h2 : ∀ (i j : Nat) (a' : Act) (w' : World), i ≤ c1.length → (hj : j < c2.length) → R a i j a' w' → wpOp P l.toArray Q c2[j] (R a i (j + 1)) a' w')
    (hC : ∀ (i j : Nat) (a' : Act) (w' : World), R a i j a' w' → C w') (hend : ∀ a' w', R a c1.length c2.length a' w' → wpTree P l.toArray C Z Q t a' w') :
    wpTree P l.toArray C Z Q (PlanT.chains t c1 c2) a w := wpTree_chains t c1 c2 (R a) h1 h2 hC hend a w h0
end
end Go

/- A region that draws its order, by a plan that branches, where an operation may wait for those that are taken first through others. Plain facts over any program. No condition. -/
namespace Go
section
variable {P : Program} {ops : Array Oper} {md : Region.Mode} {C : World → Prop} {Z : List Nat} {Q : Exit → Act → World → Prop}
/-- Does j wait for i, itself or through others? -/
def Region.waitsT (md : Region.Mode) (ops : Array Oper) : Nat → Nat → Nat → Bool
  | 0, j, i => Region.waitsFor md ops j i
  | n + 1, j, i => Region.waitsFor md ops j i || (match ops[j]? with | some oj => oj.after.any (fun e => Region.binds md e && Region.waitsT md ops n e.on i) | none => false)
def Region.Pre (md : Region.Mode) (ops : Array Oper) (s : Array Bool) (j : Nat) : Prop := ∀ oj, ops[j]? = some oj → ∀ e ∈ oj.after, Region.binds md e = true → s.getD e.on false = true
/-- What is done has all that it waits for done. -/
def Region.Down (md : Region.Mode) (ops : Array Oper) (s : Array Bool) : Prop := ∀ k, s.getD k false = true → Region.Pre md ops s k
theorem Region.waitsT_spec {s : Array Bool} (hD : Region.Down md ops s) : ∀ (n j i : Nat), Region.Pre md ops s j → Region.waitsT md ops n j i = true → s.getD i false = true
  | 0, j, i, hp, h => by
    obtain ⟨oj, hoj, e, he, hb, hon⟩ := Region.waitsFor_spec (show Region.waitsFor md ops j i = true from h)
    rw [← hon]; exact hp oj hoj e he hb
  | n + 1, j, i, hp, h => by
    unfold Region.waitsT at h
    rw [Bool.or_eq_true] at h
    rcases h with h | h
    · obtain ⟨oj, hoj, e, he, hb, hon⟩ := Region.waitsFor_spec h
      rw [← hon]; exact hp oj hoj e he hb
    · cases ho : ops[j]? with
      | none => rw [ho] at h; cases h
      | some oj =>
        rw [ho] at h
        obtain ⟨k, hk, h2⟩ := Array.any_eq_true.1 h
        rw [Bool.and_eq_true] at h2
        have hm : oj.after[k] ∈ oj.after := Array.getElem_mem hk
        exact Region.waitsT_spec hD n _ i (hD _ (hp oj ho _ hm h2.1)) h2.2
theorem getD_setT {s : Array Bool} {j x : Nat} (h : s.getD x false = true) : (s.setIfInBounds j true).getD x false = true := by
  by_cases e : j = x
  · subst e
    have : j < s.size := by
      rcases Nat.lt_or_ge j s.size with h' | h'
      · exact h'
      · rw [Array.getD_eq_getD_getElem?, Array.getElem?_eq_none h'] at h; cases h
    rw [Array.getD_eq_getD_getElem?, Array.getElem?_setIfInBounds_self_of_lt this]; rfl
  · rw [getD_set_ne false e]; exact h
theorem Region.Down.set {s : Array Bool} (hD : Region.Down md ops s) {j : Nat} (hp : Region.Pre md ops s j) : Region.Down md ops (s.setIfInBounds j true) := fun k hk oj hoj e he hb => by
  by_cases hjk : j = k
  · subst hjk; exact getD_setT (hp oj hoj e he hb)
  · rw [getD_set_ne false hjk] at hk
    exact getD_setT (hD k hk oj hoj e he hb)
theorem Region.Pre.of_ready {s : Array Bool} {j : Nat} (h : j ∈ Region.ready md ops s) : Region.Pre md ops s j := fun oj hoj e he hb => by
  obtain ⟨_, oj', hoj', hall⟩ := mem_ready.1 h
  rw [hoj] at hoj'; injection hoj' with hoj'; subst hoj'
  exact hall e he hb
theorem Region.Down.none (n : Nat) : Region.Down md ops (Array.replicate n false) := fun k hk => by
  rw [Array.getD_eq_getD_getElem?, Array.getElem?_replicate] at hk
  split at hk <;> cases hk
theorem wpAnyC_firstT {i : Nat} {oi : Oper} {v : Value} (hi : ops[i]? = some oi) (hns : Region.noSelect ops = true)
    (hQ : ∀ c a a' w, a'.defers = a.defers → Q (.panic c) a' w → Q (.panic c) a w) (hZ : ∀ z ∈ Z, Region.waitsT md ops 3 z i = true) :
    ∀ (fuel : Nat) (s : Array Bool) (a : Act) (w : World), Region.Down md ops s →
      (∀ j oj, ops[j]? = some oj → j ≠ i → s.getD j true = false → (∀ e ∈ oj.after, Region.binds md e = true → e.on ≠ i) → oi.apart ops oj = true) →
      i ∈ Region.ready md ops s → YieldsC P ops C oi v a → C w →
      wpAnyC P md ops C Z Q fuel (s.setIfInBounds i true) (a.put oi.dst v) w → wpAnyC P md ops C Z Q (fuel + 1) s a w := by
  have sel := fun (j : Nat) (o : Oper) cs b => Region.noSelect_spec hns j o cs b
  intro fuel
  induction fuel with
  | zero =>
    intro s a w _ _ hr hy hC H
    refine ⟨fun h => (by rw [h] at hr; cases hr), fun j hj => ?_⟩
    by_cases hji : j = i
    · subst hji; exact hy.wpOp hi hC ⟨.inr hC, H⟩
    · have := ready_mono hj hji
      rw [H.1] at this
      cases this
  | succ fuel ih =>
    intro s a w hD hfree hr hy hC H
    refine ⟨fun h => (by rw [h] at hr; cases hr), fun j hj => ?_⟩
    by_cases hji : j = i
    · subst hji; exact hy.wpOp hi hC ⟨.inr hC, H⟩
    · have h1 := H.2 j (ready_mono hj hji)
      obtain ⟨hjun, oj, hoj, hall⟩ := mem_ready.1 hj
      have hiun := (mem_ready.1 hr).1
      have hin : s.getD i false ≠ true := fun h2 => by
        rw [getD_both hiun] at h2
        cases h2
      have hnot : ∀ e ∈ oj.after, Region.binds md e = true → e.on ≠ i := fun e he hb heq => by
        have h2 := hall e he hb
        rw [heq] at h2
        exact hin h2
      have hjZ : j ∉ Z := fun hz => hin (Region.waitsT_spec hD 3 j i (Region.Pre.of_ready hj) (hZ j hz))
      have h2 := wpOp_putC hoj (hfree j oj hoj hji hjun hnot) (fun cs b => sel i oi cs b hi) (fun cs b => sel j oj cs b hoj) hQ hy h1
      have hfree' : ∀ k ok, ops[k]? = some ok → k ≠ i → (s.setIfInBounds j true).getD k true = false →
          (∀ e ∈ ok.after, Region.binds md e = true → e.on ≠ i) → oi.apart ops ok = true := fun k ok hk hki hun hno => by
        refine hfree k ok hk hki ?_ hno
        by_cases hjk : j = k
        · subst hjk; exact hjun
        · rw [getD_set_ne true hjk] at hun; exact hun
      refine wpOp_mono (fun a' w' h3 => ?_) h2
      have hC' : C w' := h3.2.1.resolve_left hjZ
      refine ⟨.inr hC', ih (s.setIfInBounds j true) a' w' (hD.set (Region.Pre.of_ready hj)) hfree' (ready_mono hr (Ne.symm hji)) h3.1 hC' ?_⟩
      rw [Array.setIfInBounds_comm _ _ hji]
      exact h3.2.2
def Region.treeT (md : Region.Mode) (ops : Array Oper) (Z : List Nat) : PlanT → Bool → Nat → Array Bool → Bool
  | .done, _, n, s => decide (n = 0) && (Region.ready md ops s).isEmpty
  | .take i r, _, n, s => match n with
    | 0 => false
    | n + 1 => (Region.ready md ops s).contains i && Region.free md ops s i && (Z.all fun z => Region.waitsT md ops 3 z i) && Region.treeT md ops Z r true n (s.setIfInBounds i true)
  | .opt i r m, first, n, s => match n with
    | 0 => false
    | n + 1 => (!first || decide (Region.ready md ops s = i :: m.heads)) && Region.treeT md ops Z r true n (s.setIfInBounds i true) && Region.treeT md ops Z m false (n + 1) s
  | .no, first, _, _ => !first
theorem anyC_of_treeT (hns : Region.noSelect ops = true) (hQ : ∀ c a a' w, a'.defers = a.defers → Q (.panic c) a' w → Q (.panic c) a w) :
    ∀ (t : PlanT) (c : Bool) (n : Nat) (s : Array Bool) (a : Act) (w : World), Region.Down md ops s → Region.treeZ Z t c = true → (c = true → C w) → wpTree P ops C Z Q t a w →
      (Region.treeT md ops Z t true n s = true → wpAnyC P md ops C Z Q n s a w) ∧
      (∀ m, n = m + 1 → Region.treeT md ops Z t false n s = true → (∀ i ∈ t.heads, i ∈ Region.ready md ops s) → ∀ i ∈ t.heads, wpOp P ops Q i (fun a' w' => (i ∈ Z ∨ C w') ∧ wpAnyC P md ops C Z Q m (s.setIfInBounds i true) a' w') a w) := by
  intro t
  induction t with
  | done =>
    intro c n s a w _ _ _ h
    refine ⟨fun hB => ?_, fun m _ _ _ i hi => by cases hi⟩
    simp only [Region.treeT, Bool.and_eq_true, decide_eq_true_eq] at hB
    obtain ⟨rfl, hB⟩ := hB
    exact ⟨by simpa using hB, h⟩
  | no =>
    intro c n s a w _ _ _ _
    exact ⟨fun hB => by simp [Region.treeT] at hB, fun m _ _ _ i hi => by cases hi⟩
  | take i r ih =>
    intro c n s a w hD hz hC h
    refine ⟨fun hB => ?_, fun m _ _ _ i hi => by cases hi⟩
    cases n with
    | zero => simp [Region.treeT] at hB
    | succ n =>
      simp only [Region.treeT, Bool.and_eq_true] at hB
      simp only [Region.treeZ, Bool.and_eq_true] at hz
      obtain ⟨⟨⟨h1, h2⟩, h3⟩, h4⟩ := hB
      have hr : i ∈ Region.ready md ops s := by simpa using h1
      obtain ⟨_, oi, hoi, _⟩ := mem_ready.1 hr
      simp only [wpTree, hoi] at h
      obtain ⟨v, hy, hn⟩ := h
      exact wpAnyC_firstT hoi hns hQ (fun z hz => List.all_eq_true.1 h3 z hz) n s a w hD (Region.free_spec hoi h2) hr hy (hC hz.1) ((ih c n _ _ _ (hD.set (Region.Pre.of_ready hr)) hz.2 hC (hn (hC hz.1))).1 h4)
  | opt i r m ihr ihm =>
    intro c n s a w hD hz hC h
    simp only [Region.treeZ, Bool.and_eq_true] at hz
    obtain ⟨h1, h2⟩ := h
    have key : ∀ k first, n = k + 1 → Region.treeT md ops Z (.opt i r m) first n s = true → (∀ j ∈ (PlanT.opt i r m).heads, j ∈ Region.ready md ops s) → ∀ j ∈ (PlanT.opt i r m).heads, wpOp P ops Q j (fun a' w' => (j ∈ Z ∨ C w') ∧ wpAnyC P md ops C Z Q k (s.setIfInBounds j true) a' w') a w := by
      intro k first hn hB hrd j hj
      subst hn
      simp only [Region.treeT, Bool.and_eq_true] at hB
      obtain ⟨⟨_, hr⟩, hm⟩ := hB
      have hrj := hrd j hj
      simp only [PlanT.heads, List.mem_cons] at hj
      rcases hj with rfl | hj
      · refine wpOp_mono (fun a' w' h' => ⟨h'.1, (ihr (c && !Z.contains j) k _ a' w' (hD.set (Region.Pre.of_ready hrj)) hz.1 (fun hc => ?_) h'.2).1 hr⟩) h1
        simp only [Bool.and_eq_true, Bool.not_eq_true'] at hc
        refine h'.1.resolve_left fun hmm => ?_
        rw [List.contains_iff_mem.2 hmm] at hc
        cases hc.2
      · exact (ihm c (k + 1) s a w hD hz.2 hC h2).2 k rfl hm (fun x hx => hrd x (by simp only [PlanT.heads, List.mem_cons]; exact .inr hx)) j hj
    refine ⟨fun hB => ?_, fun k hk hB hrd => key k false hk hB hrd⟩
    cases n with
    | zero => simp [Region.treeT] at hB
    | succ n =>
      have hk := key n true rfl hB
      simp only [Region.treeT, Bool.and_eq_true, Bool.not_true, Bool.false_or, decide_eq_true_eq] at hB
      have hrd : ∀ j ∈ (PlanT.opt i r m).heads, j ∈ Region.ready md ops s := fun j hj => by rw [hB.1.1]; exact hj
      refine ⟨fun h0 => (by rw [hB.1.1] at h0; cases h0), fun j hj => ?_⟩
      rw [hB.1.1] at hj
      exact hk hrd j hj
/-- **THE REGION, BY A PLAN THAT BRANCHES; what stands in Z may wait for what is taken first through others.** -/
theorem wp_region_treeT {id : Nat} {a : Act} {w : World} {l : List Oper} {Q : Exit → Act → World → Prop} (C : World → Prop) (Z : List Nat) (t : PlanT) (hm : P.follows .mixedOrders = true)
    (hB : (Region.noSelect l.toArray && Region.treeT .any l.toArray Z t true l.toArray.size (Array.replicate l.toArray.size false) && Region.treeZ Z t true) = true)
    (hC : C w.drew) (h : wpTree P l.toArray C Z (tidy Q) t a w.drew) : (Code.region id l.toArray true).wp P Q a w := by
  simp only [Bool.and_eq_true] at hB
  refine wp_mono (Q := tidy Q) ?_ (tidy_le Q)
  refine wp_region_any hm ?_
  exact wpAny_of_C _ _ _ _ ((anyC_of_treeT hB.1.1 (fun _ _ _ _ _ q => q.elim) t true _ _ a w.drew (Region.Down.none _) hB.2 (fun _ => hC) h).1 hB.1.2)
end
end Go
