/- The program's set of blocks: what was let go is settled. Conditions: the set's block is known. -/
import Derived.Test.YtkjcidbhepminaaDoorSet5
namespace Go.Proofs.YtkjcidbhepminaaDoor
open Go.RowKit
/-- How many of the first m blocks are let go. -/
def cnt (L : List Nat) (m : Nat) : Nat := ((List.range m).filter fun i => decide (1 < L.getD i 0)).length
theorem cnt_le (L : List Nat) (m : Nat) : cnt L m ≤ m := by unfold cnt; exact Nat.le_trans (List.length_filter_le _ _) (by simp)
theorem cnt_word (L : List Nat) (k : Nat) : cnt L (64 * (k + 1)) = cnt L (64 * k) + pop 64 (gw L k) := by
  unfold cnt gw
  rw [wf_pop, show 64 * (k + 1) = 64 * k + 64 by omega, List.range_add, List.filter_append, List.length_append, List.filter_map, List.length_map]
  rfl
theorem cnt_succ (L : List Nat) (m : Nat) : cnt L (m + 1) = cnt L m + if 1 < L.getD m 0 then 1 else 0 := by
  unfold cnt
  rw [List.range_succ, List.filter_append, List.length_append, List.filter_cons]
  by_cases h : 1 < L.getD m 0
  · rw [if_pos (by simpa using h), if_pos h]; rfl
  · rw [if_neg (by simpa using h), if_neg h]; rfl
theorem getD_out {L : List Nat} {m : Nat} (h : L.length ≤ m) : L.getD m 0 = 0 := by rw [List.getD_eq_getElem?_getD, List.getElem?_eq_none h]; rfl
theorem cnt_len (L : List Nat) : ∀ d, cnt L (L.length + d) = cnt L L.length
  | 0 => rfl
  | d + 1 => by rw [← Nat.add_assoc, cnt_succ, cnt_len L d, getD_out (by omega)]; rfl
theorem cnt_all {L : List Nat} (h : L.length ≤ 512) : cnt L 512 = cnt L L.length := by
  have := cnt_len L (512 - L.length)
  rwa [show L.length + (512 - L.length) = 512 by omega] at this
def setl (L : List Nat) : List Nat := L.map fun x => if x = 2 then 0 else x
theorem setl_getD (L : List Nat) (i : Nat) : (setl L).getD i 0 = if L.getD i 0 = 2 then 0 else L.getD i 0 := by
  unfold setl
  simp only [List.getD_eq_getElem?_getD, List.getElem?_map]
  cases L[i]? <;> simp
theorem setl_length (L : List Nat) : (setl L).length = L.length := by simp [setl]
theorem SetOk.setl {L : List Nat} (h : SetOk L) : SetOk (setl L) :=
  ⟨by rw [setl_length]; exact h.len, fun i => by rw [setl_getD]; split; · omega
                                                 exact h.le i⟩
theorem tw_setl {L : List Nat} (h : SetOk L) (k : Nat) : tw (setl L) k = tw L k &&& (18446744073709551615 - gw L k) := by
  unfold tw gw
  rw [wf_without]
  refine wf_congr fun i _ => ?_
  rw [setl_getD]
  have := h.le (64 * k + i)
  generalize L.getD (64 * k + i) 0 = x at this ⊢
  have hx : x = 0 ∨ x = 1 ∨ x = 2 := by omega
  rcases hx with rfl | rfl | rfl <;> rfl
theorem gw_setl {L : List Nat} (h : SetOk L) (k : Nat) : gw (setl L) k = 0 := wf_none fun i _ => by
  rw [setl_getD]
  have := h.le (64 * k + i)
  generalize L.getD (64 * k + i) 0 = x at this ⊢
  have hx : x = 0 ∨ x = 1 ∨ x = 2 := by omega
  rcases hx with rfl | rfl | rfl <;> rfl
/-- The cells when the first k words are settled. -/
def setvS (L : List Nat) (k i : Nat) : Value := if i = 0 then .int .i64 (L.length : Nat) else if i < 9 then .int .u64 ((if i - 1 < k then tw (setl L) (i - 1) else tw L (i - 1) : Nat) : Int) else .int .u64 ((if i - 9 < k then 0 else gw L (i - 9) : Nat) : Int)
theorem setvS_0 (L : List Nat) : arr 17 (setvS L 0) = setCells L := arr_congr fun i _ => by unfold setvS setv; simp
theorem setvS_8 {L : List Nat} (h : SetOk L) : arr 17 (setvS L 8) = setCells (setl L) := arr_congr fun i hi => by
  unfold setvS setv
  rw [setl_length, gw_setl h]
  by_cases c0 : i = 0
  · rw [if_pos c0, if_pos c0]
  · rw [if_neg c0, if_neg c0]
    by_cases c1 : i < 9
    · rw [if_pos c1, if_pos c1, if_pos (by omega)]
    · rw [if_neg c1, if_neg c1, if_pos (by omega)]
theorem setvS_step (L : List Nat) (k : Nat) (hk : k < 8) (a b : Value) (ha : a = .int .u64 (tw (setl L) k : Nat)) (hb : b = .int .u64 0) :
    ((arr 17 (setvS L k)).setIfInBounds (1 + k) a).setIfInBounds (9 + k) b = arr 17 (setvS L (k + 1)) := by
  subst ha hb
  simp only [arr_set]
  refine arr_congr fun i hi => ?_
  unfold setvS
  by_cases e2 : i = 9 + k
  · subst e2
    rw [if_pos rfl, if_neg (by omega), if_neg (by omega), if_pos (by omega)]; rfl
  · rw [if_neg e2]
    by_cases e1 : i = 1 + k
    · subst e1
      rw [if_pos rfl, if_neg (by omega), if_pos (by omega), if_pos (by omega), Nat.add_sub_cancel_left]
    · rw [if_neg e1]
      by_cases c0 : i = 0
      · rw [if_pos c0, if_pos c0]
      · rw [if_neg c0, if_neg c0]
        by_cases c1 : i < 9
        · rw [if_pos c1, if_pos c1]
          by_cases c2 : i - 1 < k
          · rw [if_pos c2, if_pos (by omega)]
          · rw [if_neg c2, if_neg (by omega)]
        · rw [if_neg c1, if_neg c1]
          by_cases c2 : i - 9 < k
          · rw [if_pos c2, if_pos (by omega)]
          · rw [if_neg c2, if_neg (by omega)]
/-- Ahead of each word. -/
def SetlRel (L : List Nat) (g : Nat) (w : World) (n v : Value) (wr : World) : Prop :=
  ∃ k : Nat, k ≤ 8 ∧ v = .int .i64 (k : Int) ∧ n = .int .i64 (cnt L (64 * k) : Nat) ∧ Blk wr g 26 (arr 17 (setvS L k)) ∧ Upd g w wr
theorem settle_nil (w : World) : Calls Tryd.prog 13 #[.pointer none] w fun e w' => e = .returned (.int .i64 0) ∧ w = w' := by
  go_enter Tryd.func13, Tryd.ntmps13
  go_wp2_with (go_at_call 30; refine (none_nil _).mono ?_; rintro e w' ⟨rfl, rfl⟩)
  go_ret
  exact ⟨rfl, rfl⟩
theorem settle_empty (g : Nat) (w : World) (h : Blk w g 26 (setCells [])) : Calls Tryd.prog 13 #[.pointer (some ⟨g, 0, none⟩)] w fun e w' => e = .returned (.int .i64 0) ∧ w = w' := by
  have hn := none_any [] g w h
  rw [decide_eq_true (by rfl)] at hn
  go_enter Tryd.func13, Tryd.ntmps13
  go_wp2_with (go_at_call 30; refine hn.mono ?_; rintro e w' ⟨rfl, rfl⟩)
  go_ret
  exact ⟨rfl, rfl⟩
theorem acquire_nil (w : World) : Calls Tryd.prog 9 #[.pointer none] w fun e w' => e = .returned (.tuple #[.int .i64 0, .int .i64 1]) ∧ w = w' := by
  go_enter Tryd.func9, Tryd.ntmps9
  go_wp2_with (go_at_call 30; refine (none_nil _).mono ?_; rintro e w' ⟨rfl, rfl⟩)
  go_ret2
  exact ⟨rfl, rfl⟩
theorem acquire_empty (g : Nat) (w : World) (h : Blk w g 26 (setCells [])) : Calls Tryd.prog 9 #[.pointer (some ⟨g, 0, none⟩)] w fun e w' => e = .returned (.tuple #[.int .i64 0, .int .i64 1]) ∧ w = w' := by
  have hn := none_any [] g w h
  rw [decide_eq_true (by rfl)] at hn
  go_enter Tryd.func9, Tryd.ntmps9
  go_wp2_with (go_at_call 30; refine hn.mono ?_; rintro e w' ⟨rfl, rfl⟩)
  go_ret2
  exact ⟨rfl, rfl⟩
theorem is_nil (b : Int) (w : World) : Calls Tryd.prog 14 #[.pointer none, .int .i64 b] w fun e w' => e = .returned (.int .i64 0) ∧ w = w' := by
  go_enter Tryd.func14, Tryd.ntmps14
  go_wp2_with (go_at_call 30; refine (none_nil _).mono ?_; rintro e w' ⟨rfl, rfl⟩)
  go_ret
  exact ⟨rfl, rfl⟩
theorem is_empty (b : Int) (g : Nat) (w : World) (h : Blk w g 26 (setCells [])) : Calls Tryd.prog 14 #[.pointer (some ⟨g, 0, none⟩), .int .i64 b] w fun e w' => e = .returned (.int .i64 0) ∧ w = w' := by
  have hn := none_any [] g w h
  rw [decide_eq_true (by rfl)] at hn
  go_enter Tryd.func14, Tryd.ntmps14
  go_wp2_with (go_at_call 30; refine hn.mono ?_; rintro e w' ⟨rfl, rfl⟩)
  go_ret
  exact ⟨rfl, rfl⟩
theorem u64_without (x y : Nat) (hx : x < 18446744073709551616) (hy : y < 18446744073709551616) : bits .andNot .u64 (x : Int) (y : Int) = ((x &&& (18446744073709551615 - y) : Nat) : Int) :=
  u64_andNot_nat x y hx hy
set_option maxHeartbeats 1000000 in
theorem settle_any (L : List Nat) (hok : SetOk L) (h0 : 0 < L.length) (g : Nat) (w : World) (h : Blk w g 26 (setCells L)) :
    Calls Tryd.prog 13 #[.pointer (some ⟨g, 0, none⟩)] w fun e w' => e = .returned (.int .i64 (cnt L L.length : Nat)) ∧ Blk w' g 26 (setCells (setl L)) ∧ Upd g w w' := by
  have hn := none_any L g w h
  rw [decide_eq_false (by omega)] at hn
  have hr := range8g h
  have HX := Lib.hid (idx8 (gw L))
  go_enter Tryd.func13, Tryd.ntmps13
  go_wp2_with (first
    | (go_at_call 30; refine hn.mono ?_; rintro e w' ⟨rfl, rfl⟩)
    | (show wpList _ _ _ ((⟨some 11, _, _, _, _, _⟩ : Oper) :: _) _ _; refine wpList_load_mid (o := ⟨some 11, _, _, _, _, _⟩) hr (by rfl) _ _ (by rfl) (by rfl) _ Tryd.underlying24 (by rfl) size8 (by rfl) ?_)
    | fail)
  go_loopw [3, 12] (fun n v wr => SetlRel L g w n v wr) (fun _ v _ => 8 - (intOf v).toNat)
  case atStart => exact ⟨0, by omega, rfl, rfl, h.sub (setvS_0 L).symm, Upd.refl _ _⟩
  case round =>
    clear h hr hn
    obtain ⟨k, hk, rfl, rfl, hw, hu⟩ := hrel
    by_cases hk8 : k < 8
    · have hidx := HX.out k hk8 wr
      have hx := gw_lt L k
      have ht := tw_lt L k
      have hone := ones_any (gw L k) hx wr
      have X1 := u64_without (tw L k) (gw L k) ht hx
      rw [← tw_setl hok] at X1
      have d1 : wr.cell? ⟨g, 1 + k, none⟩ = some (.int .u64 (tw L k : Nat)) := hw.at_ (1 + k) (by rw [arr_at _ (by omega)]; unfold setvS; rw [if_neg (by omega), if_pos (by omega), if_neg (by omega), Nat.add_sub_cancel_left])
      have f1 := hw.frozen (1 + k)
      have hp := pop_le 64 (gw L k)
      have hcl := cnt_le L (64 * k)
      obtain ⟨p, hpe⟩ : ∃ p, p = pop 64 (gw L k) := ⟨_, rfl⟩
      obtain ⟨x, hxe⟩ : ∃ x, x = gw L k := ⟨_, rfl⟩
      obtain ⟨t', hte⟩ : ∃ t', t' = tw (setl L) k := ⟨_, rfl⟩
      obtain ⟨t, htte⟩ : ∃ t, t = tw L k := ⟨_, rfl⟩
      obtain ⟨c, hce⟩ : ∃ c, c = cnt L (64 * k) := ⟨_, rfl⟩
      rw [← hpe] at hone hp
      rw [← hxe] at hidx hone X1
      rw [← hte, ← htte] at X1
      rw [← htte] at d1
      rw [← hce] at hcl ⊢
      have HE := Lib.hid (And.intro hpe (And.intro hte hce))
      have HW := Lib.hid hw
      have HU := Lib.hid hu
      clear hpe hte hce hxe htte hx ht hw hu
      go_wp2_with fail
      refine hone.mono ?_
      rintro e w' ⟨rfl, rfl⟩
      go_wp2
      go_region
      have h1 := (HW.out.set_ (1 + k) (.int .u64 (t' : Int))).drew
      have hU1 := Lib.hid (HU.out.trans (Upd.drew ((Upd.refl g wr).set (1 + k) (.int .u64 (t' : Int)))))
      generalize (World.setCell wr _ _).drew = w1 at h1 hU1 ⊢
      clear d1 f1 HW HU hone
      have d2 : ∃ u, w1.cell? ⟨g, 9 + k, none⟩ = some u := ⟨_, h1.at_ (9 + k) (Array.getElem?_eq_getElem (by simp [arr_size]; omega))⟩
      have f2 := h1.frozen (9 + k)
      have H1 := Lib.hid h1
      obtain ⟨u, d2⟩ := d2
      clear h1
      go_wp2
      go_roundw
      case rel =>
        refine ⟨k + 1, by omega, by go_num, ?_, (H1.out.set_ (9 + k) (.int .u64 0)).sub (setvS_step L k hk8 _ _ (by rw [HE.out.2.1]) rfl), hU1.out.trans ((Upd.refl g w1).set (9 + k) (.int .u64 0))⟩
        rw [cnt_word, ← HE.out.1, ← HE.out.2.2]; go_num
      case measure => simp [intOf]; omega
    · obtain rfl : k = 8 := by omega
      have hc := cnt_all hok.len
      have hcl := cnt_le L 512
      generalize cnt L (64 * 8) = c at hc hcl ⊢
      have HC := Lib.hid hc
      have HW := Lib.hid hw
      clear hc hw
      go_wp2
      go_ret
      exact ⟨ret_int (by rw [HC.out]), HW.out.sub (setvS_8 hok), hu⟩
end Go.Proofs.YtkjcidbhepminaaDoor
