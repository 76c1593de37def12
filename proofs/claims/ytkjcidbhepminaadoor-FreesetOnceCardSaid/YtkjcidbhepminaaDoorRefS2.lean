/- The document's set of blocks: made, settled, counted. Conditions: its two blocks are known; each number is 0, 1 or 2. -/
import Derived.Test.YtkjcidbhepminaaDoorRefS1
namespace Go.Proofs.YtkjcidbhepminaaDoor
open Go.RowKit
theorem wpList_make_ints {P : Program} (w : World) {ops : Array Oper} {rest : List Oper} {o : Oper} {a : Act} {Q : Exit → Act → World → Prop}
    (hg : o.guard = none) (l c : Operand) (t : TypeId) (hop : o.op = Op.makeSlice t l c) (e : TypeId) (h1 : P.underlying t = some (.slice e)) (h2 : (P.info? e).map (fun i => (i.zero, i.size, i.bytes)) = some (some (.int .i64 0), 1, 8))
    (kl kc : IntKind) (L C : Int) (n m : Nat) (hl : a.eval l = .int kl L) (hc : a.eval c = .int kc C) (hL : L = (n : Int)) (hC : C = (m : Int)) (hnm : n ≤ m) (hm : m ≤ 1000000000)
    (hK : ∀ w', Blk w' w.heap.size e (ints (List.replicate m 0)) → Below w.heap.size w w' → w'.heap.size = w.heap.size + 1 → wpList P ops Q rest (a.put o.dst (.slice (some ⟨w.heap.size, 0, none⟩) n m)) w') :
    wpList P ops Q (o :: rest) a w := by
  obtain ⟨i, hi, hzz⟩ := Option.map_eq_some_iff.1 h2
  simp only [Prod.mk.injEq] at hzz
  obtain ⟨hz, hs, hb⟩ := hzz
  subst hL
  subst hC
  have hr := run_make (P := P) w t e i _ h1 hi hz kl kc n m (by omega) (by omega) (by rw [hb]; omega) (by omega)
  have e2 : madeCells (Value.int .i64 0).cells (m * i.size) = ints (List.replicate m 0) := by
    rw [hs, Nat.mul_one]
    unfold madeCells ints
    apply Array.ext'
    simp [Value.cells, iv, List.eq_replicate_iff]
    intro b x
    simp [Nat.mod_one]
  rw [Int.toNat_natCast, Int.toNat_natCast, e2] at hr
  refine wpList_plain hg fun K hK' => ?_
  unfold Oper.wp
  simp only [execOp, hop, hl, hc, hr, Sem.run_bind, Result.andThen_ok, Sem.run_pure]
  exact hK' _ _ (hK _ (Blk.new w e _) ((Below.refl _ _).alloc (Nat.le_refl _) _) (by simp))
theorem i64info : (Tryd.prog.info? 3).map (fun i => (i.zero, i.size, i.bytes)) = some (some (.int .i64 0), 1, 8) := by kernel_rfl
theorem rnew_bad (n : Int) (h : n < 1 ∨ 512 < n) (w : World) :
    Calls Tryd.prog 27 #[.int .i64 n] w fun e w' => e = .returned (.tuple #[.pointer none, .int .i64 5]) ∧ w = w' := by
  rcases h with h | h
  · go_enter Tryd.func27, Tryd.ntmps27
    go_wp2
    go_ret2
    exact ⟨rfl, rfl⟩
  · have h1 : 1 ≤ n := by omega
    go_enter Tryd.func27, Tryd.ntmps27
    go_wp2
    go_ret2
    exact ⟨rfl, rfl⟩
theorem rnew_any (n : Nat) (h0 : 0 < n) (h1 : n ≤ 512) (w : World) :
    Calls Tryd.prog 27 #[.int .i64 (n : Int)] w fun e w' => e = .returned (.tuple #[.pointer (some ⟨w.heap.size + 1, 0, none⟩), .int .i64 0]) ∧ RefAt w' (w.heap.size + 1) w.heap.size (List.replicate n 0) ∧ Below w.heap.size w w' := by
  go_enter Tryd.func27, Tryd.ntmps27
  go_wp2_with (first
    | (show wpList _ _ _ ((⟨some 11, _, _, _, _, _⟩ : Oper) :: _) _ _; refine wpList_make_ints (o := ⟨some 11, _, _, _, _, _⟩) _ (by rfl) _ _ _ (by rfl) _ Tryd.underlying52 i64info .i64 .i64 _ _ n n (by rfl) (by rfl) (by rfl) (by rfl) (Nat.le_refl _) (by omega) ?_; intro w1 h1 hb1 hs1)
    | fail)
  go_ret2
  refine ⟨by rw [← hs1]; rfl, ⟨?_, h1.alloc _, by omega⟩, hb1.alloc hb1.size _⟩
  rw [List.length_replicate, ← hs1]
  exact Blk.new _ _ _
/-- Ahead of each block: the first k are settled. -/
def setK (L : List Nat) (k : Nat) : List Nat := setl (L.take k) ++ L.drop k
theorem setK_length (L : List Nat) (k : Nat) (h : k ≤ L.length) : (setK L k).length = L.length := by unfold setK; simp [setl]; omega
theorem setK_getD (L : List Nat) (k : Nat) (h : k < L.length) : (setK L k).getD k 0 = L.getD k 0 := by
  unfold setK
  have e : (setl (L.take k)).length = k := by simp [setl]; omega
  rw [List.getD_eq_getElem?_getD, List.getElem?_append_right (by omega), e, Nat.sub_self, List.getElem?_drop, Nat.add_zero, ← List.getD_eq_getElem?_getD]
theorem setK_succ (L : List Nat) (k : Nat) (h : k < L.length) : setK L (k + 1) = (setK L k).set k (if L.getD k 0 = 2 then 0 else L.getD k 0) := by
  unfold setK
  have e : (setl (L.take k)).length = k := by simp [setl]; omega
  rw [List.set_append_right _ _ (by omega), e, Nat.sub_self, List.drop_eq_getElem_cons h, List.set_cons_zero, List.take_succ_eq_append_getElem h, getD_lt h]
  unfold setl
  rw [List.map_append, List.append_assoc]; rfl
theorem setK_same (L : List Nat) (k : Nat) (h : k < L.length) (h2 : L.getD k 0 ≠ 2) : setK L (k + 1) = setK L k := by
  rw [setK_succ L k h, if_neg h2]
  have e := setK_getD L k h
  have hl : k < (setK L k).length := by rw [setK_length L k (by omega)]; exact h
  rw [getD_lt hl] at e
  rw [← e]
  exact List.set_getElem_self hl
def RSet (L : List Nat) (r q : Nat) (w : World) (n v : Value) (wr : World) : Prop :=
  ∃ k : Nat, k ≤ L.length ∧ v = .int .i64 (k : Int) ∧ n = .int .i64 (cnt L k : Nat) ∧ RefAt wr r q (setK L k) ∧ Upd q w wr
theorem rsettle_any (L : List Nat) (hok : SetOk L) (r q : Nat) (w : World) (h : RefAt w r q L) :
    Calls Tryd.prog 40 #[.pointer (some ⟨r, 0, none⟩)] w fun e w' => e = .returned (.int .i64 (cnt L L.length : Nat)) ∧ RefAt w' r q (setl L) ∧ Upd q w w' := by
  have hl := hok.len
  go_enter Tryd.func40, Tryd.ntmps40
  go_wp2
  go_loopw [3, 4] (fun n v wr => RSet L r q w n v wr) (fun _ v _ => L.length - (intOf v).toNat)
  case atStart => exact ⟨0, by omega, rfl, rfl, h, Upd.refl _ _⟩
  case round =>
    clear h
    obtain ⟨k, hk, rfl, rfl, hw, hu⟩ := hrel
    have d0 := hw.d0
    rw [setK_length L k hk] at d0
    have hcl := cnt_le L k
    by_cases hkl : k < L.length
    · have d1 := hw.at_ k (by rw [setK_length L k hk]; exact hkl)
      rw [setK_getD L k hkl] at d1
      have f1 := hw.tl.frozen k
      have hc := cnt_succ L k
      have hle := hok.le k
      by_cases h2 : L.getD k 0 = 2
      · rw [h2] at d1 hc
        rw [if_pos (by omega)] at hc
        have hn := setK_succ L k hkl
        rw [if_pos h2] at hn
        have hr := hw.set_ k 0 rfl
        rw [← hn] at hr
        obtain ⟨c, hce⟩ : ∃ c, c = cnt L k := ⟨_, rfl⟩
        rw [← hce] at hcl hc ⊢
        have HC := Lib.hid hc
        have HR := Lib.hid hr
        have HU := Lib.hid (hu.set k (.int .i64 (0 : Int)))
        clear hce hc hr hn h2 hw hu
        go_wp2
        go_roundw
        case rel => exact ⟨k + 1, by omega, by go_num, by rw [HC.out]; go_num, HR.out, HU.out⟩
        case measure => simp [intOf]; omega
      · have hx : ((L.getD k 0 : Nat) : Int) ≠ 2 := by omega
        rw [if_neg (by omega)] at hc
        have hn := setK_same L k hkl h2
        have hr := hw
        rw [← hn] at hr
        generalize L.getD k 0 = x at d1 hx
        have hx' : ((x : Int) == 2) = false := by simpa using hx
        obtain ⟨c, hce⟩ : ∃ c, c = cnt L k := ⟨_, rfl⟩
        rw [← hce] at hcl hc ⊢
        have HC := Lib.hid hc
        have HR := Lib.hid hr
        have HU := Lib.hid hu
        clear hce hc hr hn h2 hw hu hx
        go_wp2
        go_roundw
        case rel => exact ⟨k + 1, by omega, by go_num, by rw [HC.out]; go_num, HR.out, HU.out⟩
        case measure => simp [intOf]; omega
    · obtain rfl : k = L.length := by omega
      have HW := Lib.hid hw
      have HU := Lib.hid hu
      obtain ⟨c, hce⟩ : ∃ c, c = cnt L L.length := ⟨_, rfl⟩
      rw [← hce] at hcl ⊢
      have HC := Lib.hid hce
      clear hw hu hce
      go_wp2
      go_ret
      exact ⟨ret_int (by rw [HC.out]), by have := HW.out; unfold setK at this; rw [List.take_length, List.drop_length, List.append_nil] at this; exact this, HU.out⟩
def RCnt (L : List Nat) (w : World) (v : Value) (wr : World) : Prop :=
  ∃ k : Nat, k ≤ L.length ∧ v = .int .i64 (k : Int) ∧ Blk wr w.heap.size 65 (c3 (L.take k)) ∧ Below w.heap.size w wr
theorem rcounts_any (L : List Nat) (hok : SetOk L) (r q : Nat) (w : World) (h : RefAt w r q L) :
    Calls Tryd.prog 42 #[.pointer (some ⟨r, 0, none⟩)] w fun e w' => e = .returned (.tuple #[.int .i64 (cnts L 0 : Nat), .int .i64 (cnts L 1 : Nat), .int .i64 (cnts L 2 : Nat)]) ∧ Below w.heap.size w w' := by
  have hl := hok.len
  have hrl := h.hd.lt
  have hql := h.tl.lt
  go_enter Tryd.func42, Tryd.ntmps42
  go_wp2
  go_loopw [6] (fun v wr => RCnt L w v wr) (fun v _ => L.length - (intOf v).toNat)
  case atStart => exact ⟨0, by omega, rfl, Blk.new _ _ _, (Below.refl _ _).alloc (Nat.le_refl _) _⟩
  case round =>
    obtain ⟨k, hk, rfl, hw, hB⟩ := hrel
    have hR := h.below hB
    have d0 := hR.d0
    by_cases hkl : k < L.length
    · have d1 := hR.at_ k hkl
      have hle := hok.le k
      have hcl := cnts_le (L.take k) (L.getD k 0)
      rw [List.length_take] at hcl
      have d2 := Blk.at_ hw (L.getD k 0) (c3_at (L.take k) (L.getD k 0) hle)
      have f2 := hw.frozen (L.getD k 0)
      have hs := (hw.set_ (L.getD k 0) (.int .i64 ((cnts (L.take k) (L.getD k 0) : Nat) + 1 : Int))).sub (c3_snoc _ _ hle)
      have et : L.take k ++ [L.getD k 0] = L.take (k + 1) := by rw [List.take_succ_eq_append_getElem hkl, getD_lt hkl]
      rw [et] at hs
      have hB2 := hB.set_ (c := w.heap.size) (i := L.getD k 0) (Nat.le_refl _) (.int .i64 ((cnts (L.take k) (L.getD k 0) : Nat) + 1 : Int))
      generalize cnts (L.take k) (L.getD k 0) = c at hcl d2 hs hB2
      generalize L.getD k 0 = x at d1 hle d2 f2 hs hB2
      have HS := Lib.hid (And.intro hs hB2)
      have H := Lib.hid h
      clear hs hB2 et hw hB hR h
      go_wp2
      go_roundw
      case rel => exact ⟨k + 1, by omega, by go_num, HS.out.1, HS.out.2⟩
      case measure => simp [intOf]; omega
    · obtain rfl : k = L.length := by omega
      rw [List.take_length] at hw
      have e0 : wr.cell? ⟨w.heap.size, 0, none⟩ = some (.int .i64 (cnts L 0 : Nat)) := hw.at_ 0 rfl
      have e1 : wr.cell? ⟨w.heap.size, 1, none⟩ = some (.int .i64 (cnts L 1 : Nat)) := hw.at_ 1 rfl
      have e2 : wr.cell? ⟨w.heap.size, 2, none⟩ = some (.int .i64 (cnts L 2 : Nat)) := hw.at_ 2 rfl
      clear hw hR h
      go_wp2
      refine wp_region_planT (fun w' => w' = World.drew wr) [] [(true, 0), (true, 2), (true, 4), (true, 1), (true, 3), (true, 5), (true, 6), (true, 7), (true, 8)] (by kernel_rfl) (by kernel_rfl) rfl ?_
      refine wpPlan_takeL [0, 2, 4, 1, 3, 5, 6, 7, 8] [] _ (by rfl) (by rfl) (rfl) ?_
      dsimp only [List.filterMap, List.getElem?_cons_zero, List.getElem?_cons_succ]
      repeat (go_big_quiet_step (fail))
      refine wpQuiet_nil ?_
      refine wpPlan_tidy ?_
      go_wp2
      go_ret3
      exact ⟨rfl, hB.drew⟩
end Go.Proofs.YtkjcidbhepminaaDoor
