/- The program's set of blocks: the lowest free block is acquired; what was let go is settled. Conditions: the set's block is known; the table of Go's library lies as it was laid. -/
import Derived.Test.YtkjcidbhepminaaDoorSet4
namespace Go.Proofs.YtkjcidbhepminaaDoor
open Go.RowKit
/-- The first free block. -/
def fr (L : List Nat) : Nat := L.findIdx (fun x => decide (x = 0))
theorem getD_lt {L : List Nat} {k : Nat} (hk : k < L.length) : L.getD k 0 = L[k] := by rw [List.getD_eq_getElem?_getD, List.getElem?_eq_getElem hk]; rfl
theorem fr_is {L : List Nat} {k : Nat} (hk : k < L.length) (h : L.getD k 0 = 0) (hl : ∀ i, i < k → L.getD i 0 ≠ 0) : fr L = k := by
  unfold fr
  rw [List.findIdx_eq hk]
  rw [getD_lt hk] at h
  refine ⟨by simp [h], fun j hj => ?_⟩
  have := hl j hj
  rw [getD_lt (by omega)] at this
  simpa using this
theorem fr_full {L : List Nat} (hl : ∀ i, i < L.length → L.getD i 0 ≠ 0) : fr L = L.length := by
  unfold fr
  rw [List.findIdx_eq_length]
  intro x hx
  obtain ⟨i, hi, rfl⟩ := List.getElem_of_mem hx
  have := hl i hi
  rw [getD_lt hi] at this
  simpa using this
def acqN (L : List Nat) : Int := if fr L < L.length then (fr L : Int) + 1 else 0
def acqE (L : List Nat) : Int := if fr L < L.length then 0 else 8
def acqL (L : List Nat) : List Nat := if fr L < L.length then L.set (fr L) 1 else L
theorem SetOk.acq {L : List Nat} (h : SetOk L) : SetOk (acqL L) := by
  unfold acqL
  split
  · exact h.set_ _ _ (by omega) (by omega)
  · exact h
theorem acqL_length (L : List Nat) : (acqL L).length = L.length := by unfold acqL; split <;> simp
/-- The eight words. -/
def w8 (f : Nat → Nat) : List Value := [.int .u64 (f 0 : Nat), .int .u64 (f 1 : Nat), .int .u64 (f 2 : Nat), .int .u64 (f 3 : Nat), .int .u64 (f 4 : Nat), .int .u64 (f 5 : Nat), .int .u64 (f 6 : Nat), .int .u64 (f 7 : Nat)]
theorem idx8 (f : Nat → Nat) (k : Nat) (hk : k < 8) (w : World) : (Instr.index 24 (.agg (w8 f).toArray) (.int .i64 (k : Int))).run Tryd.prog w = .ok (.int .u64 (f k : Nat)) w := by
  have h0 : (Instr.index 24 (.agg (w8 f).toArray) (.int .i64 0)).run Tryd.prog w = .ok (.int .u64 (f 0 : Nat)) w := by kernel_rfl
  have h1 : (Instr.index 24 (.agg (w8 f).toArray) (.int .i64 1)).run Tryd.prog w = .ok (.int .u64 (f 1 : Nat)) w := by kernel_rfl
  have h2 : (Instr.index 24 (.agg (w8 f).toArray) (.int .i64 2)).run Tryd.prog w = .ok (.int .u64 (f 2 : Nat)) w := by kernel_rfl
  have h3 : (Instr.index 24 (.agg (w8 f).toArray) (.int .i64 3)).run Tryd.prog w = .ok (.int .u64 (f 3 : Nat)) w := by kernel_rfl
  have h4 : (Instr.index 24 (.agg (w8 f).toArray) (.int .i64 4)).run Tryd.prog w = .ok (.int .u64 (f 4 : Nat)) w := by kernel_rfl
  have h5 : (Instr.index 24 (.agg (w8 f).toArray) (.int .i64 5)).run Tryd.prog w = .ok (.int .u64 (f 5 : Nat)) w := by kernel_rfl
  have h6 : (Instr.index 24 (.agg (w8 f).toArray) (.int .i64 6)).run Tryd.prog w = .ok (.int .u64 (f 6 : Nat)) w := by kernel_rfl
  have h7 : (Instr.index 24 (.agg (w8 f).toArray) (.int .i64 7)).run Tryd.prog w = .ok (.int .u64 (f 7 : Nat)) w := by kernel_rfl
  have hk' : k = 0 ∨ k = 1 ∨ k = 2 ∨ k = 3 ∨ k = 4 ∨ k = 5 ∨ k = 6 ∨ k = 7 := by omega
  rcases hk' with rfl | rfl | rfl | rfl | rfl | rfl | rfl | rfl
  · exact h0
  · exact h1
  · exact h2
  · exact h3
  · exact h4
  · exact h5
  · exact h6
  · exact h7
theorem size8 : (Tryd.prog.info? 24).map (·.size) = some 8 := by kernel_rfl
theorem w8_at {f : Nat → Nat} {j : Nat} {v : Value} (h : (w8 f)[j]? = some v) : j < 8 ∧ v = .int .u64 (f j : Nat) := by
  have hj : j < 8 := by have := (List.getElem?_eq_some_iff.1 h).1; simpa [w8] using this
  refine ⟨hj, ?_⟩
  have hk' : j = 0 ∨ j = 1 ∨ j = 2 ∨ j = 3 ∨ j = 4 ∨ j = 5 ∨ j = 6 ∨ j = 7 := by omega
  rcases hk' with rfl | rfl | rfl | rfl | rfl | rfl | rfl | rfl <;> (simp [w8] at h; exact h.symm)
theorem range8 {w : World} {g : Nat} {t : TypeId} {L : List Nat} (h : Blk w g t (setCells L)) : w.rangeAt g 1 (w8 (tw L)) :=
  Blk.range h 1 _ fun j v hv => by
    obtain ⟨hj, rfl⟩ := w8_at hv
    rw [setCells, arr_at _ (by omega), setv_t _ _ hj]
theorem range8g {w : World} {g : Nat} {t : TypeId} {L : List Nat} (h : Blk w g t (setCells L)) : w.rangeAt g 9 (w8 (gw L)) :=
  Blk.range h 9 _ fun j v hv => by
    obtain ⟨hj, rfl⟩ := w8_at hv
    rw [setCells, arr_at _ (by omega), setv_g]
theorem u64_not (x : Nat) (hx : x < 18446744073709551616) : bits BinOp.xor IntKind.u64 IntKind.u64.max (x : Int) = ((18446744073709551615 - x : Nat) : Int) := by
  have h := u64_xor_nat 18446744073709551615 x (by omega) hx
  have e : IntKind.u64.max = ((18446744073709551615 : Nat) : Int) := rfl
  rw [e, h]
  congr 1
  apply Nat.eq_of_testBit_eq
  intro i
  have e1 : 18446744073709551615 - x = 2 ^ 64 - (x + 1) := by omega
  have e2 : (18446744073709551615 : Nat) = 2 ^ 64 - 1 := by decide
  rw [e1, Nat.testBit_two_pow_sub_succ (by omega), Nat.testBit_xor, e2, Nat.testBit_two_pow_sub_one]
  by_cases hi : i < 64
  · simp [hi]
  · have : x.testBit i = false := Nat.testBit_lt_two_pow (Nat.lt_of_lt_of_le hx (Nat.pow_le_pow_right (n := 2) (i := 64) (by omega) (by omega)))
    simp [hi, this]
theorem least (p : Nat → Prop) [DecidablePred p] : ∀ n, (∀ i, i < n → ¬ p i) ∨ ∃ b, b < n ∧ p b ∧ ∀ i, i < b → ¬ p i
  | 0 => .inl fun i hi => by omega
  | n + 1 => by
    rcases least p n with h | ⟨b, hb, hp, hl⟩
    · by_cases hn : p n
      · exact .inr ⟨n, by omega, hn, h⟩
      · exact .inl fun i hi => by
          by_cases e : i = n
          · subst e; exact hn
          · exact h i (by omega)
    · exact .inr ⟨b, by omega, hp, hl⟩
/-- Ahead of each word: no block of the words behind is free. -/
def AcqRel (L : List Nat) (v : Value) : Prop := ∃ k : Nat, k ≤ 8 ∧ v = .int .i64 (k : Int) ∧ ∀ i, i < 64 * k → i < L.length → L.getD i 0 ≠ 0
set_option maxHeartbeats 1000000 in
theorem acquire_any (L : List Nat) (hok : SetOk L) (h0 : 0 < L.length) (g : Nat) (w : World) (h : Blk w g 26 (setCells L)) (hT : Tab w) :
    Calls Tryd.prog 9 #[.pointer (some ⟨g, 0, none⟩)] w fun e w' => e = .returned (.tuple #[.int .i64 (acqN L), .int .i64 (acqE L)]) ∧ Blk w' g 26 (setCells (acqL L)) ∧ Upd g w w' := by
  have hn := none_any L g w h
  rw [decide_eq_false (by omega)] at hn
  have hr := range8 h
  have d0 : w.cell? ⟨g, 0, none⟩ = some (.int .i64 (L.length : Nat)) := h.at_ 0 (by rw [setCells, arr_at _ (by omega), setv_0])
  have HX := Lib.hid (idx8 (tw L))
  go_enter Tryd.func9, Tryd.ntmps9
  go_wp2_with (first
    | (go_at_call 30; refine hn.mono ?_; rintro e w' ⟨rfl, rfl⟩)
    | (show wpList _ _ _ ((⟨some 12, _, _, _, _, _⟩ : Oper) :: _) _ _; refine wpList_load_mid (o := ⟨some 12, _, _, _, _, _⟩) hr (by rfl) _ _ (by rfl) (by rfl) _ Tryd.underlying24 (by rfl) size8 (by rfl) ?_)
    | fail)
  go_loop [13] (fun v => AcqRel L v) (fun v => 8 - (intOf v).toNat)
  case atStart => exact ⟨0, by omega, rfl, fun i hi => by omega⟩
  case round =>
    obtain ⟨k, hk, rfl, hfull⟩ := hrel
    by_cases hk8 : k < 8
    · have hidx := HX.out k hk8 w
      have htw := tw_lt L k
      have X1 := u64_not (tw L k) htw
      have Y1 : 18446744073709551615 - tw L k = wf (fun i => !decide (0 < L.getD (64 * k + i) 0)) 64 := wf_not _
      obtain ⟨y, hy⟩ : ∃ y, y = 18446744073709551615 - tw L k := ⟨_, rfl⟩
      rw [← hy] at X1 Y1
      have hylt : y < 18446744073709551616 := by omega
      clear hy
      generalize tw L k = x at hidx X1
      clear htw
      rcases least (fun i => L.getD (64 * k + i) 0 = 0) 64 with hall | ⟨b, hb, hz, hbl⟩
      · have hy0 : y = 0 := by
          rw [Y1]; exact wf_none (f := fun i => !decide (0 < L.getD (64 * k + i) 0)) fun i hi => by
            have h1 : ¬ L.getD (64 * k + i) 0 = 0 := hall i hi
            have h2 : 0 < L.getD (64 * k + i) 0 := by omega
            simp only [h2, decide_true, Bool.not_true]
        have htz := tz_any y hylt w hT
        rw [show Lib.ctz 64 y = 64 by rw [hy0]; rfl] at htz
        have hyb : ((y : Int) != 0) = false := by simp; omega
        clear Y1 hylt hy0
        have hf2 : ∀ i, i < 64 * (k + 1) → i < L.length → L.getD i 0 ≠ 0 := fun i hi hl => by
          by_cases hlt : i < 64 * k
          · exact hfull i hlt hl
          · have := hall (i - 64 * k) (by omega)
            rwa [show 64 * k + (i - 64 * k) = i by omega] at this
        have HF := Lib.hid hf2
        clear hf2 hfull hall
        go_wp2_with fail
        refine htz.mono ?_
        rintro e w' ⟨rfl, rfl⟩
        go_wp2
        go_round
        case rel => exact ⟨k + 1, by omega, by go_num, HF.out⟩
        case measure => simp [intOf]; omega
      · have hne0 : y ≠ 0 ∧ Lib.ctz 64 y = b := by
          rw [Y1]; exact wf_ctz (f := fun i => !decide (0 < L.getD (64 * k + i) 0)) hb (by
            have h1 : L.getD (64 * k + b) 0 = 0 := hz
            simp only [h1]; rfl) (fun i hi => by
            have h1 : ¬ L.getD (64 * k + i) 0 = 0 := hbl i hi
            have h2 : 0 < L.getD (64 * k + i) 0 := by omega
            simp only [h2, decide_true, Bool.not_true])
        have htz := tz_any y hylt w hT
        rw [hne0.2] at htz
        have hyb : ((y : Int) != 0) = true := by have := hne0.1; simp; omega
        clear Y1 hylt hne0
        by_cases hin : 64 * k + b < L.length
        · have hfr : fr L = 64 * k + b := fr_is hin hz (fun i hi => by
            by_cases hlt : i < 64 * k
            · exact hfull i hlt (by omega)
            · have := hbl (i - 64 * k) (by omega)
              rwa [show 64 * k + (i - 64 * k) = i by omega] at this)
          have e1 : acqN L = ((64 * k + b : Nat) : Int) + 1 := by unfold acqN; rw [hfr, if_pos hin]
          have e2 : acqE L = 0 := by unfold acqE; rw [hfr, if_pos hin]
          have e3 : acqL L = L.set (64 * k + b) 1 := by unfold acqL; rw [hfr, if_pos hin]
          have E := Lib.hid (And.intro e1 (And.intro e2 e3))
          clear e1 e2 e3 hfr hfull hbl hz
          have hset := set_any L g (64 * k + b) 1 (by omega) hin hok.len w h
          have eN : (((64 * k + b : Nat) : Int) + 1) = 64 * (k : Int) + b + 1 := by omega
          rw [eN] at hset E
          have hll := hok.len
          have hle : 64 * (k : Int) + b + 1 ≤ L.length := by omega
          clear eN
          go_wp2_with fail
          refine htz.mono ?_
          rintro e w' ⟨rfl, rfl⟩
          go_wp2_with fail
          refine hset.mono ?_
          rintro e w1 ⟨rfl, h3, hu⟩
          go_wp2
          go_ret2
          exact ⟨by rw [E.out.1, E.out.2.1]; rfl, h3.sub (by rw [E.out.2.2]), hu⟩
        · have hf2 : ∀ i, i < 64 * (k + 1) → i < L.length → L.getD i 0 ≠ 0 := fun i hi hl => by
            by_cases hlt : i < 64 * k
            · exact hfull i hlt hl
            · have := hbl (i - 64 * k) (by omega)
              rwa [show 64 * k + (i - 64 * k) = i by omega] at this
          have HF := Lib.hid hf2
          have hgt : (L.length : Int) < 64 * (k : Int) + b + 1 := by omega
          clear hf2 hfull hbl hz hin
          go_wp2_with fail
          refine htz.mono ?_
          rintro e w' ⟨rfl, rfl⟩
          go_wp2
          go_round
          case rel => exact ⟨k + 1, by omega, by go_num, HF.out⟩
          case measure => simp [intOf]; omega
    · obtain rfl : k = 8 := by omega
      have hfr : fr L = L.length := fr_full (fun i hi => hfull i (by have := hok.len; omega) hi)
      have e1 : acqN L = 0 := by unfold acqN; rw [hfr, if_neg (by omega)]
      have e2 : acqE L = 8 := by unfold acqE; rw [hfr, if_neg (by omega)]
      have e3 : acqL L = L := by unfold acqL; rw [hfr, if_neg (by omega)]
      have E := Lib.hid (And.intro e1 (And.intro e2 e3))
      clear e1 e2 e3 hfr hfull
      go_wp2
      go_ret2
      exact ⟨by rw [E.out.1, E.out.2.1]; rfl, h.sub (by rw [E.out.2.2]), Upd.refl _ _⟩
end Go.Proofs.YtkjcidbhepminaaDoor
