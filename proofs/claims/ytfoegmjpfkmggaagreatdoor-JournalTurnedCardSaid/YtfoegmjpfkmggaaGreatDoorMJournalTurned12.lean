/- The document's mixing in of a block answers what the plain function says. Condition: there are 64 bytes from the place on. -/
import Derived.Test.YtfoegmjpfkmggaaGreatDoorMJournalTurned11
namespace Go.Proofs.YtfoegmjpfkmggaaGreatDoor
open Go.RowKit
theorem size8r : (Tryz.prog.info? 231).map (·.size) = some 8 := by kernel_rfl
set_option maxHeartbeats 1000000 in
set_option maxRecDepth 100000 in
theorem rblock_any (hs : Sha.St) (b off n c : Nat) (bs : List UInt8) (at_ : Nat) (hn : n = bs.length) (h64 : at_ + 64 ≤ n) (_hn2 : n ≤ 140737488400000)
   (w : World) (hbl : b < w.heap.size) (hb : ∀ j, j < n → w.cell? ⟨b, off + j, none⟩ = some (.int .u8 (iu8 (bs.getD j 0)))) :
    Calls Tryz.prog 162 #[.agg (st8 hs), .agg karr, .slice (some ⟨b, off, none⟩) n c, .int .i64 at_] w fun e w' => e = .returned (.agg (st8 (Sha.blk hs bs at_))) ∧ Below w.heap.size w w' := by
  have a64 := alloc64
  have HN := Lib.hid hn; clear hn
  have HB := Lib.hid hb; clear hb
  go_enter Tryz.func162, Tryz.ntmps162
  go_wp2
  go_loopw [10] (fun i wr => ∃ t : Nat, t ≤ 64 ∧ i = .int .i64 t ∧ BInv 231 w wr hs (Sha.word bs at_) t) (fun i _ => 64 - (intOf i).toNat)
  case atStart => exact ⟨0, by omega, rfl, BInv.new _ w hs _⟩
  case round =>
    obtain ⟨t, ht, rfl, hI⟩ := hrel
    by_cases hlt : t < 16
    · have hlt64 : t < 64 := by omega
      go_wp2
      go_loopw [11] (fun i wr => ∃ k : Nat, k ≤ 4 ∧ i = .int .i64 k ∧ PInv 231 w wr hs (Sha.word bs at_) t (Sha.part bs at_ t k)) (fun i _ => 4 - (intOf i).toNat)
      case atStart => exact ⟨0, by omega, rfl, hI.part⟩
      case round =>
        clear hI
        obtain ⟨k, hk, rfl, hI⟩ := hrel
        by_cases hk4 : k < 4
        · obtain ⟨x0, h0⟩ : ∃ x, x = bs.getD (at_ + 4 * t + k) 0 := ⟨_, rfl⟩
          obtain ⟨y, hy⟩ : ∃ x, x = Sha.part bs at_ t k := ⟨_, rfl⟩
          have c0 := (hI.bel.cell (p := ⟨b, off + (at_ + 4 * t + k), none⟩) hbl).trans (HB.out (at_ + 4 * t + k) (by omega))
          rw [← h0] at c0
          rw [← hy] at hI
          have HW := Lib.hid (show Sha.part bs at_ t (k + 1) = (y <<< 8) ||| x0.toUInt32 by rw [hy, h0]; rfl)
          clear h0 hy
          have c4 := hI.get (by omega)
          have c5 := hI.ww.frozen t
          go_wp2
          refine wp_region_tail 17 (by kernel_rfl) (by kernel_rfl) ?_
          simp only [List.take_succ_cons, List.take_zero, List.drop_succ_cons, List.drop_zero]
          repeat (go_big_quiet_step (fail))
          refine wpQuiet_nil ?_
          go_wp2
          go_roundw
          case rel => exact ⟨k + 1, by omega, by go_num, by rw [HW.out]; exact hI.store _⟩
          case measure => simp [intOf]; omega
        · obtain rfl : k = 4 := by omega
          go_wp2
          go_roundw
          case rel => exact ⟨t + 1, by omega, by go_num, hI.whole (by rw [Sha.part_four]; exact (Sha.wd_lo _ hlt).symm)⟩
          case measure => simp [intOf]; omega
    · have ht1 : 16 ≤ t := by omega
      by_cases hlt : t < 64
      · go_wp2
        obtain ⟨y2, h2⟩ : ∃ y : UInt32, y = Sha.wd (Sha.word bs at_) (t - 2) := ⟨_, rfl⟩
        obtain ⟨y7, h7⟩ : ∃ y : UInt32, y = Sha.wd (Sha.word bs at_) (t - 7) := ⟨_, rfl⟩
        obtain ⟨y15, h15⟩ : ∃ y : UInt32, y = Sha.wd (Sha.word bs at_) (t - 15) := ⟨_, rfl⟩
        obtain ⟨y16, h16⟩ : ∃ y : UInt32, y = Sha.wd (Sha.word bs at_) (t - 16) := ⟨_, rfl⟩
        have HW := Lib.hid (show Sha.wd (Sha.word bs at_) t = Sha.s1 y2 + y7 + Sha.s0 y15 + y16 by rw [h2, h7, h15, h16]; exact Sha.wd_hi _ ht1)
        have c15 := hI.get (i := t - 15) (by omega) (by omega)
        rw [← h15] at c15
        have H2 := Lib.hid h2; have H7 := Lib.hid h7; have H15 := Lib.hid h15; have H16 := Lib.hid h16
        clear h2 h7 h15 h16
        go_quiet ((go_at_call 181; exact Calls.quiet_of (right_any _ _ (by omega) (by omega) _)))
        go_wp2
        have hI1 := hI.drewN nq
        clear hI c15
        generalize wr.drewN nq = w1 at hI1 ⊢
        have c2 := hI1.get (i := t - 2) (by omega) (by omega)
        rw [← H2.out] at c2
        go_quiet ((go_at_call 181; exact Calls.quiet_of (right_any _ _ (by omega) (by omega) _)))
        go_wp2
        have hI2 := hI1.drewN nq
        clear hI1 c2
        generalize w1.drewN nq = w2 at hI2 ⊢
        have c7 := hI2.get (i := t - 7) (by omega) (by omega)
        have c16 := hI2.get (i := t - 16) (by omega) (by omega)
        rw [← H7.out] at c7
        rw [← H16.out] at c16
        have c0 := hI2.get' hlt
        have cf := hI2.ww.frozen t
        refine wp_region_tail 15 (by kernel_rfl) (by kernel_rfl) ?_
        simp only [List.take_succ_cons, List.take_zero, List.drop_succ_cons, List.drop_zero]
        repeat (go_big_quiet_step (fail))
        refine wpQuiet_nil ?_
        go_wp2
        go_roundw
        case rel => exact ⟨t + 1, by omega, by go_num, hI2.store _ (HW.out)⟩
        case measure => simp [intOf]; omega
      · obtain rfl : t = 64 := by omega
        clear ht ht1 hlt
        have hX := hI.ww.lt
        have hz8 := zero8_new 231 wr
        go_wp2_with (first
          | (refine wpList_load_blk (o := ⟨some 95, _, _, _, _, _⟩) hI.hh (by rfl) _ _ (by rfl) (by rfl) _ Tryz.underlying231 (by rfl) size8r (st8_size _) ?_)
          | (show wpList _ _ _ ((⟨none, _, _, _, _, _⟩ : Oper) :: _) _ _; (refine wpList_store_blk (o := ⟨none, _, _, _, _, _⟩) hz8 (by rfl) _ _ _ (by rfl) (by rfl) (st8 hs) (by rfl) size8r zero8_size (st8_size _) (st8_one _) ?_; intro w3 hx3 hu3; have hI3 := (hI.alloc _).upd hu3 (by omega); clear hI hu3 hz8)))
        generalize wr.heap.size = X at hX hx3 ⊢
        go_loopw [15] (fun i wr => ∃ t : Nat, t ≤ 64 ∧ i = .int .i64 t ∧ BInv 231 w wr hs (Sha.word bs at_) 64 ∧ Blk wr X 231 (st8 (Sha.rounds (Sha.word bs at_) hs t))) (fun i _ => 64 - (intOf i).toNat)
        case atStart => exact ⟨0, by omega, rfl, hI3, hx3⟩
        case round =>
          clear hI3 hx3
          obtain ⟨t, ht, rfl, hI, hx⟩ := hrel
          by_cases hlt : t < 64
          · obtain ⟨s, hs'⟩ : ∃ s, s = Sha.rounds (Sha.word bs at_) hs t := ⟨_, rfl⟩
            rw [← hs'] at hx
            obtain ⟨k, hk'⟩ : ∃ k, k = Sha.kt t := ⟨_, rfl⟩
            obtain ⟨y, hy'⟩ : ∃ k, k = Sha.wd (Sha.word bs at_) t := ⟨_, rfl⟩
            have HS := Lib.hid (show Sha.rounds (Sha.word bs at_) hs (t + 1) = Sha.round k y s by rw [hs', hk', hy']; rfl)
            have HK := Lib.hid hk'
            have HY := Lib.hid hy'
            clear hs' hk' hy'
            go_wp2
            have r0 : wr.cell? ⟨X, 0, none⟩ = some (.int .u32 (iu32 s.a)) := hx.cell 0
            have r1 : wr.cell? ⟨X, 1, none⟩ = some (.int .u32 (iu32 s.b)) := hx.cell 1
            have r2 : wr.cell? ⟨X, 2, none⟩ = some (.int .u32 (iu32 s.c)) := hx.cell 2
            have r3 : wr.cell? ⟨X, 3, none⟩ = some (.int .u32 (iu32 s.d)) := hx.cell 3
            have r4 : wr.cell? ⟨X, 4, none⟩ = some (.int .u32 (iu32 s.e)) := hx.cell 4
            have r5 : wr.cell? ⟨X, 5, none⟩ = some (.int .u32 (iu32 s.f)) := hx.cell 5
            have r6 : wr.cell? ⟨X, 6, none⟩ = some (.int .u32 (iu32 s.g)) := hx.cell 6
            have r7 : wr.cell? ⟨X, 7, none⟩ = some (.int .u32 (iu32 s.h)) := hx.cell 7
            have rw := hI.get (i := t) hlt hlt
            have rk : wr.cell? ⟨w.heap.size + 1, t, none⟩ = some (.int .u32 (iu32 (Sha.kt t))) := by rw [hI.kk.cell t]; exact arr_at _ hlt
            rw [← HY.out] at rw
            rw [← HK.out] at rk
            go_quiet ((go_at_call 181; exact Calls.quiet_of (right_any _ _ (by omega) (by omega) _)))
            clear rw rk
            go_wp2
            replace hI := hI.drewN nq
            replace hx := hx.drewN nq
            clear r0 r1 r2 r3 r4 r5 r6 r7
            generalize wr.drewN nq = w1 at hI hx ⊢
            have r0 : w1.cell? ⟨X, 0, none⟩ = some (.int .u32 (iu32 s.a)) := hx.cell 0
            have r1 : w1.cell? ⟨X, 1, none⟩ = some (.int .u32 (iu32 s.b)) := hx.cell 1
            have r2 : w1.cell? ⟨X, 2, none⟩ = some (.int .u32 (iu32 s.c)) := hx.cell 2
            have r3 : w1.cell? ⟨X, 3, none⟩ = some (.int .u32 (iu32 s.d)) := hx.cell 3
            have r4 : w1.cell? ⟨X, 4, none⟩ = some (.int .u32 (iu32 s.e)) := hx.cell 4
            have r5 : w1.cell? ⟨X, 5, none⟩ = some (.int .u32 (iu32 s.f)) := hx.cell 5
            have r6 : w1.cell? ⟨X, 6, none⟩ = some (.int .u32 (iu32 s.g)) := hx.cell 6
            have r7 : w1.cell? ⟨X, 7, none⟩ = some (.int .u32 (iu32 s.h)) := hx.cell 7
            go_quiet ((go_at_call 181; exact Calls.quiet_of (right_any _ _ (by omega) (by omega) _)))
            replace hI := hI.drewN nq
            replace hx := hx.drewN nq
            clear r0 r1 r2 r3 r4 r5 r6 r7
            generalize w1.drewN nq = w3 at hI hx ⊢
            have r0 : w3.cell? ⟨X, 0, none⟩ = some (.int .u32 (iu32 s.a)) := hx.cell 0
            have r1 : w3.cell? ⟨X, 1, none⟩ = some (.int .u32 (iu32 s.b)) := hx.cell 1
            have r2 : w3.cell? ⟨X, 2, none⟩ = some (.int .u32 (iu32 s.c)) := hx.cell 2
            have r3 : w3.cell? ⟨X, 3, none⟩ = some (.int .u32 (iu32 s.d)) := hx.cell 3
            have r4 : w3.cell? ⟨X, 4, none⟩ = some (.int .u32 (iu32 s.e)) := hx.cell 4
            have r5 : w3.cell? ⟨X, 5, none⟩ = some (.int .u32 (iu32 s.f)) := hx.cell 5
            have r6 : w3.cell? ⟨X, 6, none⟩ = some (.int .u32 (iu32 s.g)) := hx.cell 6
            have r7 : w3.cell? ⟨X, 7, none⟩ = some (.int .u32 (iu32 s.h)) := hx.cell 7
            go_wp2_with (show wpList _ _ _ ((⟨none, _, _, _, _, _⟩ : Oper) :: _) _ _; ((refine wpList_store_blk (o := ⟨none, _, _, _, _, _⟩) hx (by rfl) _ _ _ (by rfl) (by rfl) (st8 (Sha.round k y s)) (by first | rfl | refine Eq.trans (b := Value.agg #[.int .u32 ((iu32 _ + iu32 _) % 4294967296), _, _, _, .int .u32 ((iu32 _ + iu32 _) % 4294967296), _, _, _]) rfl ?_; simp only [u32_add_w]; rfl) size8r (st8_size _) (st8_size _) (st8_one _) ?_; intro w4 hx4 hu4; have hI4 := hI.upd hu4 (by omega); clear hI hx hu4 r0 r1 r2 r3 r4 r5 r6 r7)))
            go_roundw
            case rel => exact ⟨t + 1, by omega, by go_num, hI4, by rw [HS.out]; exact hx4⟩
            case measure => simp [intOf]; omega
          · obtain rfl : t = 64 := by omega
            obtain ⟨xs, hxs⟩ : ∃ s, s = Sha.rounds (Sha.word bs at_) hs 64 := ⟨_, rfl⟩
            rw [← hxs] at hx
            have HX := Lib.hid (show Sha.blk hs bs at_ = Sha.add hs xs by rw [hxs]; rfl)
            clear hxs ht hlt
            have hh0 := hI.hh.sub (sum8_zero hs xs)
            go_wp2
            go_loopw [18] (fun i wr => ∃ t : Nat, t ≤ 8 ∧ i = .int .i64 t ∧ Blk wr w.heap.size 231 (sum8 hs xs t) ∧ Blk wr (w.heap.size + 1 + 1) 231 zero8 ∧ Blk wr X 231 (st8 xs) ∧ Below w.heap.size w wr) (fun i _ => 8 - (intOf i).toNat)
            case atStart => exact ⟨0, by omega, rfl, hh0, hI.zz, hx, hI.bel⟩
            case round =>
              clear hI hx hh0
              obtain ⟨t, ht, rfl, hh, hz, hx, hbel⟩ := hrel
              by_cases hlt : t < 8
              · have c0 := (hh.cell t).trans (sum8_get hs xs t hlt)
                have c1 := (hx.cell t).trans (st8_get xs t hlt)
                have cf := hh.frozen t
                go_wp2
                refine wp_region_tail 9 (by kernel_rfl) (by kernel_rfl) ?_
                simp only [List.take_succ_cons, List.take_zero, List.drop_succ_cons, List.drop_zero]
                repeat (go_big_quiet_step (fail))
                refine wpQuiet_nil ?_
                go_wp2
                go_roundw
                case rel =>
                  refine ⟨t + 1, by omega, by go_num, ?_, hz.off (by omega) _, hx.off (by omega) _, (hbel.set_ (by omega) _).drew⟩
                  have := hh.set_ t (.int .u32 (iu32 (Sha.get hs t + Sha.get xs t)))
                  rw [sum8_set] at this
                  first | exact this | (rw [← u32_add_w] at this; exact this)
                case measure => simp [intOf]; omega
              · obtain rfl : t = 8 := by omega
                rw [sum8_all] at hh
                go_wp2_with (first
                  | (show wpList _ _ _ ((⟨some 197, _, _, _, _, _⟩ : Oper) :: _) _ _; (refine wpList_load_blk (o := ⟨some 197, _, _, _, _, _⟩) hh (by rfl) _ _ (by rfl) (by rfl) _ Tryz.underlying231 (by rfl) size8r (st8_size _) ?_))
                  | (show wpList _ _ _ ((⟨none, _, _, _, _, _⟩ : Oper) :: _) _ _; (refine wpList_store_blk (o := ⟨none, _, _, _, _, _⟩) hz (by rfl) _ _ _ (by rfl) (by rfl) (st8 (Sha.add hs xs)) (by rfl) size8r zero8_size (st8_size _) (st8_one _) ?_; intro w5 hz5 hu5; have hbel5 := hbel.upd hu5 (by omega); clear hbel hh hz hx hu5)))
                refine bodyPost_ret (results_cell_row (by rfl) _ _ _ _ _ _ _ (by rfl) hz5 Tryz.underlying231 (by rfl) size8r) rfl ⟨?_, hbel5⟩
                rw [HX.out]
end Go.Proofs.YtfoegmjpfkmggaaGreatDoor

/- The document's seal of bytes answers what the plain function says. Condition: the bytes can be read and their room is at most 2^47 - 4096. -/
namespace Go.Proofs.YtfoegmjpfkmggaaGreatDoor
open Go.RowKit
theorem u64_div_byte (n k : Nat) : (n : Int) / 2 ^ (56 - 8 * k) % 256 = iu8 (UInt8.ofNat (n / 2 ^ (56 - 8 * k) % 256)) := by
  rw [iu8_ofNat_mod]; simp
/-- What the eight bytes are so far. -/
def EightRel (n : Nat) (base : Nat) (w : World) (v i : Value) (wr : World) : Prop :=
  ∃ (k : Nat) (sp : List UInt8), k ≤ 8 ∧ i = .int .i64 k ∧ OwnB 5 wr base v ((Sha.eight n).take k) sp ∧ Below base w wr
set_option maxHeartbeats 400000 in
theorem eight_any (n : Nat) (hn : n < 18446744073709551616) (w : World) :
    Calls Tryz.prog 159 #[.int .u64 n] w fun e w' => ∃ v sp, e = .returned v ∧ OwnB 5 w' w.heap.size v (Sha.eight n) sp ∧ Below w.heap.size w w' := by
  have HN := Lib.hid hn
  clear hn
  go_enter Tryz.func159, Tryz.ntmps159
  go_wp2
  go_loopw [3, 4] (fun v i wr => EightRel n w.heap.size w v i wr) (fun _ i _ => 8 - (intOf i).toNat)
  case atStart => exact ⟨0, [], by omega, rfl, OwnsC.nil _ _ _ _, Below.refl _ _⟩
  case round =>
    obtain ⟨k, sp, hk, rfl, ho, hbel⟩ := hrel
    obtain ⟨M, hM⟩ : ∃ M, M = (Sha.eight n).take k := ⟨_, rfl⟩
    have hMl : M.length ≤ 8 := by rw [hM, List.length_take, Sha.eight_length]; omega
    by_cases hk8 : k < 8
    · obtain ⟨x, hx⟩ : ∃ x, x = UInt8.ofNat (n / 2 ^ (56 - 8 * k) % 256) := ⟨_, rfl⟩
      have eb : ((n : Int) / 2 ^ (56 - 8 * k) % 256) = iu8 x := by rw [hx]; exact u64_div_byte n k
      have HX := Lib.hid hx
      rw [← hM] at ho
      have HM := Lib.hid hM
      obtain ⟨A3, c3, rfl, _, _, _, _⟩ := OwnsC.reads ho
      have hsz := hbel.size
      have hlit : Bytes (wr.alloc (.cells #[.int .u8 (iu8 x)] 5)) (some ⟨wr.heap.size, 0, none⟩) [x] := bytes_lit wr _ [x]
      replace ho := OwnB.alloc ho (.cells #[.int .u8 (iu8 x)] 5)
      clear hx hM
      go_wp2_with (show wpList _ _ _ ((⟨some 17, _, _, _, _, _⟩ : Oper) :: _) _ _; refine wpList_append_bytes (o := ⟨some 17, _, _, _, _, _⟩) (by rfl) _ _ _ (by rfl) w.heap.size _ Tryz.underlying39 u8info (.slice A3 M.length c3) M sp (by rfl) ho (some ⟨wr.heap.size, 0, none⟩) 1 [x] (by rfl) hlit (by simp; omega) (by simp; omega) ?_; intro v3 w9 sp3 ho3 hg3 _ _; have hb3 := (hbel.alloc hsz (.cells #[.int .u8 (iu8 x)] 5)).grown hg3 (by simp; omega) (fun k hk => (OwnsC.lt ho k hk).1); clear hlit ho hg3 hbel)
      go_roundw
      case rel => exact ⟨k + 1, sp3, by omega, by go_num, by rw [HM.out, HX.out, ← Sha.eight_take _ _ hk8] at ho3; exact ho3, hb3⟩
      case measure => simp [intOf]; omega
    · obtain rfl : k = 8 := by omega
      rw [List.take_of_length_le (by rw [Sha.eight_length]; omega)] at ho
      clear hM hMl
      go_wp2
      go_ret
      exact ⟨_, sp, rfl, ho, hbel⟩
theorem size8m : (Tryz.prog.info? 231).map (·.size) = some 8 := by kernel_rfl
set_option maxHeartbeats 400000 in
set_option maxRecDepth 100000 in
theorem table_any (w : World) : Calls Tryz.prog 161 #[] w fun e w' => e = .returned (.agg karr) ∧ Below w.heap.size w w' := by
  have a64 := alloc64
  have hz := Blk.new w 233 zero64
  go_enter Tryz.func161, Tryz.ntmps161
  go_wp2_with (first | (show wpList _ _ _ ((⟨some 1, .build _ _, _, _, _, _⟩ : Oper) :: _) _ _; (refine wpList_run (o := ⟨some 1, .build _ _, _, _, _, _⟩) (.agg karr) (by rfl) (by kernel_rfl) ?_)) | (show wpList _ _ _ ((⟨none, _, _, _, _, _⟩ : Oper) :: _) _ _; (refine wpList_store_blk (o := ⟨none, _, _, _, _, _⟩) hz (by rfl) _ _ _ (by rfl) (by rfl) karr (by kernel_rfl) size64 zero64_size karr_size karr_one ?_; intro w1 h1 hu1)))
  refine bodyPost_ret (results_cell_row (by rfl) _ _ _ _ _ _ _ (by rfl) h1 Tryz.underlying233 (by rfl) size64) rfl ⟨rfl, ((Below.refl _ _).alloc (Nat.le_refl _) _).upd hu1 (Nat.le_refl _)⟩
set_option maxHeartbeats 400000 in
theorem begin_any (w : World) : Calls Tryz.prog 160 #[] w fun e w' => e = .returned (.agg (st8 Sha.init)) ∧ Below w.heap.size w w' := by
  have hz := zero8_new 231 w
  go_enter Tryz.func160, Tryz.ntmps160
  go_wp2_with (first | (show wpList _ _ _ ((⟨some 1, .build _ _, _, _, _, _⟩ : Oper) :: _) _ _; (refine wpList_run (o := ⟨some 1, .build _ _, _, _, _, _⟩) (.agg (st8 Sha.init)) (by rfl) (by kernel_rfl) ?_)) | (show wpList _ _ _ ((⟨none, _, _, _, _, _⟩ : Oper) :: _) _ _; (refine wpList_store_blk (o := ⟨none, _, _, _, _, _⟩) hz (by rfl) _ _ _ (by rfl) (by rfl) (st8 Sha.init) (by rfl) size8m zero8_size (st8_size _) (st8_one _) ?_; intro w1 h1 hu1)))
  refine bodyPost_ret (results_cell_row (by rfl) _ _ _ _ _ _ _ (by rfl) h1 Tryz.underlying231 (by rfl) size8m) rfl ⟨rfl, ((Below.refl _ _).alloc (Nat.le_refl _) _).upd hu1 (Nat.le_refl _)⟩

theorem OwnB.grown_ {e : TypeId} {w w' : World} {base : Nat} {v : Value} {l sp : List UInt8} (h : OwnB e w base v l sp) (hb : Below w.heap.size w w') : OwnB e w' base v l sp := OwnsC.ownBelow h hb
/-- Ahead of each nought that is put behind. -/
def ZeroRel (w : World) (l : List UInt8) (v : Value) (wr : World) : Prop :=
  ∃ (i : Nat) (sp : List UInt8), i ≤ Sha.zeros l.length ∧ OwnB 5 wr (w.heap.size + 1) v (l ++ 128 :: List.replicate i 0) sp ∧ Blk wr w.heap.size 150 zero16 ∧ Below w.heap.size w wr
/-- Ahead of each block of the padded bytes. -/
def LoopRel (w : World) (H K : Nat) (l : List UInt8) (A : Option Addr) (v : Value) (wr : World) : Prop :=
  ∃ (j : Nat), 64 * j ≤ (Sha.pad l).length ∧ v = .int .i64 (64 * (j : Int)) ∧ Bytes wr A (Sha.pad l) ∧ SInv 231 w wr H K (Sha.blks (Sha.pad l) Sha.init j)
/-- The 16 bytes, of which the first i have been laid. -/
def rarr (x : Sha.St) (i : Nat) : Array Value := arr 16 fun k => if k < i then u8v (Sha.outAt x k) else .int .u8 0
theorem rarr_zero (x : Sha.St) : zero16 = rarr x 0 := arr_congr fun i _ => by simp
theorem rarr_all (x : Sha.St) : rarr x 16 = ((Sha.out x).map u8v).toArray := by
  unfold Sha.out
  rw [List.map_map, arr_list]
  exact arr_congr fun i h => by simp [h]
theorem rarr_set (x : Sha.St) (i : Nat) : (rarr x i).setIfInBounds i (.int .u8 (iu8 (Sha.outAt x i))) = rarr x (i + 1) := by
  unfold rarr
  rw [arr_set]
  refine arr_congr fun k _ => ?_
  by_cases h : k = i
  · subst h; simp [u8v]
  · rw [if_neg h]
    by_cases hk : k < i
    · rw [if_pos hk, if_pos (by omega)]
    · rw [if_neg hk, if_neg (by omega)]
/-- Ahead of each byte of the seal. -/
def OutRel (w : World) (H K D : Nat) (x : Sha.St) (v : Value) (wr : World) : Prop :=
  ∃ i : Nat, i ≤ 16 ∧ v = .int .i64 (i : Int) ∧ SInv 231 w wr H K x ∧ Blk wr D 150 (rarr x i)
set_option maxHeartbeats 1000000 in
set_option maxRecDepth 100000 in
theorem rsum_any (A : Option Addr) (c : Nat) (l : List UInt8) (_ : l.length ≤ c) (hc2 : l.length ≤ 140737488351232 ∧ c ≤ 9223372036854775807) (w : World) (hb : Bytes w A l) :
    Calls Tryz.prog 121 #[.slice A l.length c] w fun e w' => e = .returned (.agg ((Sha.sum l).map u8v).toArray) ∧ Below w.heap.size w w' := by
  have a16 := alloc16
  have HZ := Lib.hid (Sha.zeros_lt l.length)
  have hz16 : Blk ((w.alloc (.cells zero16 150)).alloc (.cells #[] 5)) w.heap.size 150 zero16 := (Blk.new _ _ _).alloc _
  have hbz : Below w.heap.size w ((w.alloc (.cells zero16 150)).alloc (.cells #[] 5)) := ((Below.refl _ _).alloc (Nat.le_refl _) _).alloc (by simp) _
  have hb1 : Bytes ((w.alloc (.cells zero16 150)).alloc (.cells #[] 5)) A l := hb.below hbz
  have ho0 : OwnB 5 ((w.alloc (.cells zero16 150)).alloc (.cells #[] 5)) (w.heap.size + 1) (.slice (some ⟨w.heap.size + 1, 0, none⟩) 0 0) [] [] := by
    have := OwnsC.lit (e := 5) (size := 1) (base := w.heap.size + 1) (w.alloc (.cells zero16 150)) #[] 0 (by simp) (by simp) (by simp)
    unfold OwnB; simpa using this
  go_enter Tryz.func121, Tryz.ntmps121
  go_wp2_with (first
    | (show wpList _ _ _ ((⟨some 11, _, _, _, _, _⟩ : Oper) :: _) _ _; (refine wpList_append_bytes (o := ⟨some 11, _, _, _, _, _⟩) (by rfl) _ _ _ (by rfl) (w.heap.size + 1) _ Tryz.underlying39 u8info (.slice (some ⟨w.heap.size + 1, 0, none⟩) 0 0) [] [] (by rfl) ho0 A c l (by rfl) hb1 (by simp; omega) (by simp) ?_; intro v1 w1 sp1 ho1 hg1 _ _; replace hbz := hbz.grown hg1 (by simp; omega) (fun k hk => by have := (OwnsC.lt ho0 k hk).1; omega); replace hz16 := (hg1.block _ hz16.lt (fun e => by have := (OwnsC.lt ho0 _ e.symm).1; omega)).trans hz16; clear hb1 ho0 hg1; replace ho1 := OwnB.alloc ho1 (.cells #[.int .u8 128] 5); have hsz1 := hbz.size; have hlit : Bytes (w1.alloc (.cells #[.int .u8 128] 5)) (some ⟨w1.heap.size, 0, none⟩) [128] := bytes_lit w1 _ [128]))
    | (show wpList _ _ _ ((⟨some 14, _, _, _, _, _⟩ : Oper) :: _) _ _; (refine wpList_append_bytes (o := ⟨some 14, _, _, _, _, _⟩) (by rfl) _ _ _ (by rfl) (w.heap.size + 1) _ Tryz.underlying39 u8info v1 ([] ++ l) sp1 (by rfl) ho1 (some ⟨w1.heap.size, 0, none⟩) 1 [128] (by rfl) hlit (by simp; omega) (by have := Blk.lt hz16; simp; omega) ?_; intro v2 w2 sp2 ho2 hg2 _ _; have hbz2 := (hbz.alloc hsz1 (.cells #[.int .u8 128] 5)).grown hg2 (by simp; omega) (fun k hk => by have := (OwnsC.lt ho1 k hk).1; omega); have hz2 := (hg2.block _ (Blk.alloc hz16 _).lt (fun e => by have := (OwnsC.lt ho1 _ e.symm).1; omega)).trans (Blk.alloc hz16 (.cells #[.int .u8 128] 5)); clear hbz hz16 hlit ho1 hg2 hsz1)))
  have ho3 : OwnB 5 w2 (w.heap.size + 1) v2 (l ++ 128 :: List.replicate 0 0) sp2 := by simpa using ho2
  clear ho2
  go_loopw [3] (fun v wr => ZeroRel w l v wr) (fun v _ => l.length + 100 - lenOf v)
  case atStart => exact ⟨0, _, by omega, ho3, hz2, hbz2⟩
  case round =>
    clear ho3 hz2 hbz2
    obtain ⟨i, sp, hi, ho, hrr, hbel⟩ := hrel
    obtain ⟨A2, c2, hv, _, _, _, _⟩ := OwnsC.reads ho
    subst hv
    obtain ⟨L, hL⟩ : ∃ L, L = l ++ 128 :: List.replicate i 0 := ⟨_, rfl⟩
    rw [← hL] at ho ⊢
    have hLl : L.length = l.length + 1 + i := by rw [hL]; simp; omega
    have HL := Lib.hid hL
    have HLl := Lib.hid hLl
    have hsz := hbel.size
    have hzl := HZ.out
    by_cases hlt : i < Sha.zeros l.length
    · have ht1 : (((L.length : Nat) : Int) % 64 != 56) = true := by rw [bne_iff_ne]; have := Sha.zeros_not' hlt; rw [← hLl] at this; omega
      have hLle : L.length ≤ 140737488351400 := by omega
      have hLlt : L.length < l.length + 100 := by omega
      have hlit : Bytes (wr.alloc (.cells #[.int .u8 0] 5)) (some ⟨wr.heap.size, 0, none⟩) [0] := bytes_lit wr _ [0]
      replace ho := OwnB.alloc ho (.cells #[.int .u8 0] 5)
      have hrlt := hrr.lt
      clear hL hLl hzl
      go_wp2_with (show wpList _ _ _ ((⟨some 21, _, _, _, _, _⟩ : Oper) :: _) _ _; refine wpList_append_bytes (o := ⟨some 21, _, _, _, _, _⟩) (by rfl) _ _ _ (by rfl) (w.heap.size + 1) _ Tryz.underlying39 u8info (.slice A2 L.length c2) L sp (by rfl) ho (some ⟨wr.heap.size, 0, none⟩) 1 [0] (by rfl) hlit (by simp; omega) (by simp; omega) ?_; intro v3 w9 sp3 ho3 hg3 _ _; have hb3 := (hbel.alloc hsz (.cells #[.int .u8 0] 5)).grown hg3 (by simp; omega) (fun k hk => by have := (OwnsC.lt ho k hk).1; omega); have hz3 := (hg3.block _ (Blk.alloc hrr _).lt (fun e => by have := (OwnsC.lt ho _ e.symm).1; omega)).trans (Blk.alloc hrr (.cells #[.int .u8 0] 5)); clear hlit ho hg3 hbel hrr)
      obtain ⟨A3, c3, hv3, _⟩ := OwnsC.reads ho3
      subst hv3
      go_roundw
      case rel => exact ⟨i + 1, sp3, by omega, by have e : L ++ [0] = l ++ 128 :: List.replicate (i + 1) 0 := by { rw [HL.out]; simp [List.replicate_succ'] }; rw [← e]; exact ho3, hz3, hb3⟩
      case measure => simp [lenOf]; omega
    · have e : i = Sha.zeros l.length := by omega
      subst e
      have ht1 : (((L.length : Nat) : Int) % 64 != 56) = false := by
        have := Sha.zeros_is' l.length
        rw [← hLl] at this
        have h2 : ((L.length : Nat) : Int) % 64 = 56 := by omega
        rw [h2]; rfl
      have hLle : L.length ≤ 140737488351400 := by omega
      clear hL hLl hzl
      go_wp2_with fail
      refine (eight_any (8 * l.length) (by omega) _).mono ?_
      rintro e w3 ⟨v8, sp8, rfl, ho8, hb8⟩
      obtain ⟨m, hm⟩ : ∃ m, m = Sha.eight (8 * l.length) := ⟨_, rfl⟩
      rw [← hm] at ho8
      have hml : m.length ≤ 8 := by rw [hm, Sha.eight_length]; omega
      obtain ⟨A8, c8, hv8, _, _, hr8, _⟩ := OwnsC.reads ho8
      subst hv8
      have hr8b : Bytes w3 A8 m := hr8
      replace ho := OwnB.grown_ ho hb8
      replace hrr := hrr.below hb8 hrr.lt
      replace hbel := hbel.trans (hb8.mono hsz)
      have hP : L ++ m = Sha.pad l := by rw [HL.out, hm, Sha.pad, Sha.tail, Nat.mul_comm]; simp
      have hsz3 := hbel.size
      have hrlt := hrr.lt
      have HP := Lib.hid hP
      clear hm hr8 ho8 hP hb8 hsz
      go_wp2_with (first
        | (show wpList _ _ _ ((⟨some 28, _, _, _, _, _⟩ : Oper) :: _) _ _; refine wpList_append_bytes (o := ⟨some 28, _, _, _, _, _⟩) (by rfl) _ _ _ (by rfl) (w.heap.size + 1) _ Tryz.underlying39 u8info (.slice A2 L.length c2) L sp (by rfl) ho A8 c8 m (by rfl) hr8b (by omega) (by omega) ?_; intro v4 w4 sp4 ho4 hg4 _ _; have hb4 := hbel.grown hg4 hsz3 (fun k hk => by have := (OwnsC.lt ho k hk).1; omega); have hz4 : Blk w4 w.heap.size 150 zero16 := (hg4.block _ hrlt (fun e => by have := (OwnsC.lt ho _ e.symm).1; omega)).trans hrr; clear ho hg4 hbel hrr hr8b hsz3 hrlt)
        | fail)
      refine (begin_any _).mono ?_
      rintro e w5 ⟨rfl, hb5⟩
      have ho5 := OwnB.grown_ ho4 hb5
      have hz5 := hz4.below hb5 hz4.lt
      have hbel5 := hb4.trans (hb5.mono hb4.size)
      have hH8 := zero8_new 231 w5
      have hz5' := hz5.alloc (.cells #[.int .u32 0, .int .u32 0, .int .u32 0, .int .u32 0, .int .u32 0, .int .u32 0, .int .u32 0, .int .u32 0] 231)
      have hlt5 := hz5.lt
      rw [HP.out] at ho5
      clear ho4 hz4 hb4 hb5 hz5
      have hge : ∀ k, v4.ownBlock = some k → k < w5.heap.size := fun k hk => (OwnsC.lt ho5 k hk).2
      have HG := Lib.hid hge
      have HO5 := Lib.hid ho5
      clear hge ho5
      go_wp2_with (first
        | (show wpList _ _ _ ((⟨none, .store _ (.tmp 4) (.tmp 29), _, _, _, _⟩ : Oper) :: _) _ _; (refine wpList_store_blk (o := ⟨none, _, _, _, _, _⟩) hH8 (by rfl) _ _ _ (by rfl) (by rfl) (st8 Sha.init) (by rfl) size8m zero8_size (st8_size _) (st8_one _) ?_; intro w6 h6 hu6; have hz6 := hz5'.upd hu6 (by omega); have hbel6 := (hbel5.alloc (by omega) (.cells #[.int .u32 0, .int .u32 0, .int .u32 0, .int .u32 0, .int .u32 0, .int .u32 0, .int .u32 0, .int .u32 0] 231)).upd hu6 (by omega); have ho6 := (OwnB.alloc HO5.out (.cells #[.int .u32 0, .int .u32 0, .int .u32 0, .int .u32 0, .int .u32 0, .int .u32 0, .int .u32 0, .int .u32 0] 231)).upd hu6 (fun hk => by have := HG.out _ hk; omega); have hs6 := hu6.size; clear hu6 hH8 hz5' hbel5))
        | fail)
      refine (table_any _).mono ?_
      rintro e w7 ⟨rfl, hb7⟩
      have hH7 := (h6.below hb7 h6.lt).alloc (.cells zero64 233)
      have hz7 := (hz6.below hb7 hz6.lt).alloc (.cells zero64 233)
      have hbel7 := (hbel6.trans (hb7.mono hbel6.size)).alloc (by have := hbel6.size; have := hb7.size; omega) (.cells zero64 233)
      have ho7 := OwnB.alloc (OwnB.grown_ ho6 hb7) (.cells zero64 233)
      have HO7 := Lib.hid ho7
      have hK7 := Blk.new w7 233 zero64
      have hlt7 := (h6.below hb7 h6.lt).lt
      clear h6 hz6 hbel6 ho6 hb7 ho7 hs6
      generalize w5.heap.size = H at hlt5 hH7 hlt7 HG ⊢
      go_wp2_with (first
        | (show wpList _ _ _ ((⟨none, .store _ (.tmp 5) (.tmp 30), _, _, _, _⟩ : Oper) :: _) _ _; (refine wpList_store_blk (o := ⟨none, _, _, _, _, _⟩) hK7 (by rfl) _ _ _ (by rfl) (by rfl) karr (by rfl) size64 zero64_size karr_size karr_one ?_; intro w8 h8 hu8; have hI : SInv 231 w w8 H w7.heap.size Sha.init := ⟨hH7.upd hu8 (by omega), h8, hz7.upd hu8 (by omega), hlt5, hlt7, hbel7.upd hu8 (by omega)⟩; have ho8 := HO7.out.upd hu8 (fun hk => by have := HG.out _ hk; omega); clear hu8 hK7 hH7 hz7 hbel7))
        | fail)
      generalize w7.heap.size = K at hI hlt7 ⊢
      obtain ⟨A4, c4, hv4, _, _, hr4, _⟩ := OwnsC.reads ho8
      subst hv4
      have hne : ∀ ad, A4 = some ad → ad.block ≠ H := fun ad hd => by have := HG.out ad.block (by rw [hd]; rfl); omega
      have hr : Bytes w8 A4 (Sha.pad l) := hr4
      have hplen : (Sha.pad l).length ≤ 140737488351400 := by have := HZ.out; rw [Sha.pad_length]; omega
      have hpm := Sha.pad_mod l
      have HPM := Lib.hid hpm
      clear hr4 ho8 hpm
      go_loopw [6] (fun v wr => LoopRel w H K l A4 v wr) (fun v _ => (Sha.pad l).length - (intOf v).toNat)
      case atStart => exact ⟨0, by omega, rfl, hr, hI⟩
      case round =>
        clear hI hr
        obtain ⟨j, hj, rfl, hr, hI⟩ := hrel
        by_cases hlt : 64 * j < (Sha.pad l).length
        · have hpm := HPM.out
          have hge : 64 * j + 64 ≤ (Sha.pad l).length := by omega
          clear hpm
          obtain ⟨b, off, hA, hbl, hcell⟩ := hr.at_ (by omega)
          subst hA
          have HC := Lib.hid hcell
          have HR := Lib.hid hr
          have HP2 := Lib.hid hge
          clear hcell hr hge
          go_wp2_with (first
            | (show wpList _ _ _ ((⟨some 37, _, _, _, _, _⟩ : Oper) :: _) _ _; refine wpList_load_blk (o := ⟨some 37, _, _, _, _, _⟩) hI.hh (by rfl) _ _ (by rfl) (by rfl) _ Tryz.underlying231 (by rfl) size8m (st8_size _) ?_)
            | (show wpList _ _ _ ((⟨some 38, _, _, _, _, _⟩ : Oper) :: _) _ _; refine wpList_load_blk (o := ⟨some 38, _, _, _, _, _⟩) hI.kk (by rfl) _ _ (by rfl) (by rfl) _ Tryz.underlying233 (by rfl) size64 karr_size ?_)
            | fail)
          refine (rblock_any (Sha.blks (Sha.pad l) Sha.init j) b off _ c4 (Sha.pad l) (64 * j) rfl HP2.out (by omega) _ hbl HC.out).mono ?_
          rintro e w9 ⟨rfl, hb9⟩
          replace hI := hI.below hb9
          have hr9 := Bytes.below HR.out hb9
          have HR9 := Lib.hid hr9
          clear hr9 hb9
          go_wp2_with (show wpList _ _ _ ((⟨none, .store _ (.tmp 4) (.tmp 41), _, _, _, _⟩ : Oper) :: _) _ _; refine wpList_store_blk (o := ⟨none, _, _, _, _, _⟩) hI.hh (by rfl) _ _ _ (by rfl) (by rfl) (st8 (Sha.blk (Sha.blks (Sha.pad l) Sha.init j) (Sha.pad l) (64 * j))) (by rfl) size8m (st8_size _) (st8_size _) (st8_one _) ?_; intro w6 h6 hu6; have hI6 := hI.stored h6 hu6; have hr6 := HR9.out.upd hu6 hne; have HR6 := Lib.hid hr6; clear hr6 hu6 hI h6)
          go_roundw
          case rel => exact ⟨j + 1, by have := HP2.out; omega, by go_num, HR6.out, hI6⟩
          case measure => have := HP2.out; simp [intOf]; omega
        · have hpm := HPM.out
          have HS := Lib.hid (show j = (Sha.pad l).length / 64 by omega)
          have hjl : 64 * j = (Sha.pad l).length := by omega
          have HJ := Lib.hid hjl
          have ht : decide (64 * (j : Int) < ((Sha.pad l).length : Int)) = false := by simp; omega
          clear hpm hlt hr hjl
          obtain ⟨x, hx⟩ : ∃ x, x = Sha.blks (Sha.pad l) Sha.init j := ⟨_, rfl⟩
          rw [← hx] at hI
          have HX := Lib.hid (show Sha.sum l = Sha.out x by rw [hx, HS.out]; rfl)
          clear hx
          have hD : Blk (wr.alloc (.cells zero16 150)) wr.heap.size 150 (rarr x 0) := (Blk.new _ _ _).sub (rarr_zero x)
          have hKD := hI.kk.lt
          have hI2 := hI.alloc (.cells zero16 150)
          go_wp2
          generalize wr.heap.size = D at hD hKD ⊢
          go_loopw [8] (fun v wr => OutRel w H K D x v wr) (fun v _ => 16 - (intOf v).toNat)
          case atStart => exact ⟨0, by omega, rfl, hI2, hD⟩
          case round =>
            clear hI hI2 hD
            obtain ⟨i, hi, rfl, hI, hD⟩ := hrel
            by_cases hi4 : i < 16
            · obtain ⟨q, hq⟩ : ∃ q, q = i / 4 := ⟨_, rfl⟩
              obtain ⟨r, hr⟩ : ∃ r, r = i % 4 := ⟨_, rfl⟩
              have hq4 : q < 8 := by omega
              have hr4 : r < 4 := by omega
              have eq1 : (i : Int) / 4 = (q : Int) := by omega
              have er1 : (i : Int) % 4 = (r : Int) := by omega
              obtain ⟨y, hy⟩ : ∃ y, y = Sha.get x q := ⟨_, rfl⟩
              have cy := (hI.hh.cell q).trans (st8_get x q (by omega))
              rw [← hy] at cy
              have hb0 : iu32 y / 2 ^ (24 - 8 * r) % 256 = iu8 (Sha.byte y r) := byte_eq y r
              have ho : Sha.outAt x i = Sha.byte y r := by rw [hy, hq, hr]; rfl
              have HO := Lib.hid ho
              have d0 := (hD.cell i).trans (arr_at _ hi4)
              have f0 := hD.frozen i
              clear hy hq hr ho
              go_wp2
              go_roundw
              case rel =>
                have h1 := hD.set_ i (.int .u8 (iu8 (Sha.byte y r)))
                rw [← HO.out, rarr_set x i] at h1
                exact ⟨i + 1, by omega, by go_num, hI.off hKD _, by rw [← HO.out]; exact h1⟩
              case measure => simp [intOf]; omega
            · obtain rfl : i = 16 := by omega
              rw [rarr_all] at hD
              go_wp2_with (first
                | (show wpList _ _ _ ((⟨some 58, _, _, _, _, _⟩ : Oper) :: _) _ _; refine wpList_load_blk (o := ⟨some 58, _, _, _, _, _⟩) hD (by rfl) _ _ (by rfl) (by rfl) _ Tryz.underlying150 (by rfl) size16 (by simp [Sha.out]) ?_)
                | (show wpList _ _ _ ((⟨none, .store _ (.tmp 2) (.tmp 58), _, _, _, _⟩ : Oper) :: _) _ _; refine wpList_store_blk (o := ⟨none, _, _, _, _, _⟩) hI.rr (by rfl) _ _ _ (by rfl) (by rfl) ((Sha.out x).map u8v).toArray (by rfl) size16 (arr_size _ _) (by simp [Sha.out]) (u8_all _) ?_; intro w6 h6 hu6; have hbel := hI.bel.upd hu6 (Nat.le_refl _); clear hu6 hI hD))
              refine bodyPost_ret (results_cell_row (by rfl) _ _ _ _ _ _ _ (by rfl) h6 Tryz.underlying150 (by rfl) (size16.trans (by simp [Sha.out]))) rfl ⟨?_, hbel⟩
              rw [HX.out]
end Go.Proofs.YtfoegmjpfkmggaaGreatDoor

/- What the document's function answers that seals bytes. Conditions: the bytes can be read; they are at most 2^47 - 5000. -/
namespace Go
open Go.RowKit
namespace Proofs.YtfoegmjpfkmggaaGreatDoor
set_option maxHeartbeats 400000 in
theorem rseal_any (A : Option Addr) (n c : Nat) (l : List UInt8) (hn : n = l.length) (hc : l.length ≤ c) (hc2 : l.length ≤ 140737488351232 ∧ c ≤ 9223372036854775807) (w : World) (hb : Bytes w A l) :
    Calls Tryz.prog 120 #[.slice A n c] w fun e w' => ∃ v sp, e = .returned v ∧ OwnB 5 w' w.heap.size v (Sha.seal_ l) sp ∧ Below w.heap.size w w' := by
  subst hn
  go_enter Tryz.func120, Tryz.ntmps120
  go_wp2_with fail
  refine (rsum_any A c l hc hc2 w hb).mono ?_
  rintro e w1 ⟨rfl, hb1⟩
  have hs16 := Sha.sum_length l
  obtain ⟨S, hS⟩ : ∃ S, S = Sha.sum l := ⟨_, rfl⟩
  rw [← hS] at hs16 ⊢
  have HS := Lib.hid hS
  clear hS
  have a16 := alloc16
  have hz := Blk.new w1 150 zero16
  have hbz := hb1.alloc hb1.size (.cells zero16 150)
  go_wp2_with (first
    | (show wpList _ _ _ ((⟨none, _, _, _, _, _⟩ : Oper) :: _) _ _; refine wpList_store_blk (o := ⟨none, _, _, _, _, _⟩) hz (by rfl) _ _ _ (by rfl) (by rfl) (S.map u8v).toArray (by rfl) size16 (arr_size _ _) (by simp [hs16]) (u8_all _) ?_; intro w2 h2 hu2; have hb2 := hbz.upd hu2 hb1.size; have hbl2 := Bytes.below hb hb2; have hb3 := hb2.alloc hb2.size (.cells #[] 5); have ho3 := OwnB.lit0 (e := 5) w2 hb2.size; have hS3 := (h2.alloc (.cells #[] 5)).bytes; have hsz3 := hb3.size; clear hu2 hbz hz h2 hbl2 hb2)
    | (show wpList _ _ _ ((⟨some 8, _, _, _, _, _⟩ : Oper) :: _) _ _; refine wpList_append_bytes (o := ⟨some 8, _, _, _, _, _⟩) (by rfl) _ _ _ (by rfl) w.heap.size _ Tryz.underlying39 u8info (.slice (some ⟨w2.heap.size, 0, none⟩) 0 0) [] _ (by rfl) ho3 (some ⟨w1.heap.size, 0, none⟩) 16 S (by rw [hs16]; rfl) hS3 (by simp; omega) hsz3 ?_; intro v4 w4 sp4 ho4 hg4 _ _; have hb4 := hb3.grown hg4 hsz3 (fun k hk => (OwnsC.lt ho3 k hk).1); have hl4 := Bytes.below hb hb4; have hsz4 := hb4.size; clear ho3 hS3 hb3 hg4)
    | (show wpList _ _ _ ((⟨some 10, _, _, _, _, _⟩ : Oper) :: _) _ _; refine wpList_append_bytes (o := ⟨some 10, _, _, _, _, _⟩) (by rfl) _ _ _ (by rfl) w.heap.size _ Tryz.underlying39 u8info v4 ([] ++ S) sp4 (by rfl) ho4 A c l (by rfl) hl4 (by simp; omega) hsz4 ?_; intro v5 w5 sp5 ho5 hg5 _ _; have hb5 := hb4.grown hg5 hsz4 (fun k hk => (OwnsC.lt ho4 k hk).1); clear ho4 hl4 hb4 hg5)
    | fail)
  go_ret
  exact ⟨v5, sp5, rfl, by rw [List.nil_append, HS.out] at ho5; exact ho5, hb5⟩
end Proofs.YtfoegmjpfkmggaaGreatDoor
end Go

/- A message's bytes, the document's. Conditions: the body can be read; the numbers are what Go's types hold. -/
namespace Go.Proofs.YtfoegmjpfkmggaaGreatDoor
open Go.RowKit
theorem rhseal_long (f : HdF) (A : Option Addr) (c : Nat) (body : List UInt8) (w : World) (hlong : 1024 < body.length) :
    Calls Tryz.prog 83 #[.agg (msgc f (.slice A body.length c))] w fun e w' => e = .returned (.tuple #[.slice none 0 0, .int .i64 3]) ∧ Below w.heap.size w w' := by
  have hg := Blk.new w 41 (msgc f (.slice A body.length c))
  have hB := Lib.hid ((Below.refl w.heap.size w).alloc (Nat.le_refl _) (.cells (msgc f (.slice A body.length c)) 41))
  have d16 := hg.at_ 16 (msgc_16 f _)
  clear hg
  go_enter Tryz.func83, Tryz.ntmps83
  go_wp2
  go_ret2
  exact ⟨rfl, hB.out⟩
set_option maxHeartbeats 1000000 in
theorem rhseal_no (f : HdF) (A : Option Addr) (c : Nat) (body : List UInt8) (w : World) (hlong : body.length ≤ 1024) (hno : Hd.ok (setF f 2 body.length) = false) :
    Calls Tryz.prog 83 #[.agg (msgc f (.slice A body.length c))] w fun e w' => e = .returned (.tuple #[.slice none 0 0, .int .i64 2]) ∧ Below w.heap.size w w' := by
  have hg := Blk.new w 41 (msgc f (.slice A body.length c))
  have hB := Lib.hid ((Below.refl w.heap.size w).alloc (Nat.le_refl _) (.cells (msgc f (.slice A body.length c)) 41))
  have d16 := hg.at_ 16 (msgc_16 f _)
  have HR := Lib.hid (hd_range hg)
  have HG := Lib.hid hg
  have HNO := Lib.hid hno
  clear hg hno
  go_enter Tryz.func83, Tryz.ntmps83
  go_wp2_with (first
    | (show wpList _ _ _ ((⟨some 10, _, _, _, _, _⟩ : Oper) :: _) _ _; refine wpList_load_mid (o := ⟨some 10, _, _, _, _, _⟩) HR.out (by rfl) _ _ (by rfl) (by rfl) _ Tryz.underlying38 (by rfl) sizeHd (by rw [Array.length_toList, hdc_size]) ?_; rw [Array.toArray_toList]; clear HR d16; generalize World.alloc w _ = w1 at HG hB ⊢; have hlt := HG.out.lt)
    | ((with_reducible show wpList _ _ _ ((⟨none, _, _, _, _, _⟩ : Oper) :: _) _ _); refine wpList_store_blk (o := ⟨none, _, _, _, _, _⟩) ((Blk.new w1 38 #[.int .i64 0, .int .i64 0, .int .i64 0, .int .i64 0, .int .i64 0, .int .i64 0, .int .i64 0, .int .i64 0, .int .i64 0, .int .u64 0, .int .u64 0, .int .i64 0, .int .i64 0, .int .u64 0, .int .i64 0, .int .i64 0]).sub zeroHd_cells.symm) (by rfl) _ _ _ (by rfl) (by rfl) (hdc f) (by rfl) (sizeHd) (hdc_size _) (hdc_size _) (hdc_one _) ?_; intro w2 h2 hu2; have hbx := ((Below.refl w1.heap.size w1).alloc (Nat.le_refl _) (.cells #[.int .i64 0, .int .i64 0, .int .i64 0, .int .i64 0, .int .i64 0, .int .i64 0, .int .i64 0, .int .i64 0, .int .i64 0, .int .u64 0, .int .u64 0, .int .i64 0, .int .i64 0, .int .u64 0, .int .i64 0, .int .i64 0] 38)).upd hu2 (Nat.le_refl _); have HG2 := Lib.hid (HG.out.below hbx hlt); have HB2 := Lib.hid (hB.out.trans (hbx.mono hB.out.size)); have d16 := HG2.out.at_ 16 (msgc_16 f _); have fz := h2.frozen 2; have dz := h2.at_ 2 (hdc_at f 2 (by omega) (by omega) (by omega) (by omega)); have HS := Lib.hid (And.intro ((h2.set_ 2 (.int .i64 (body.length : Nat))).sub (hdc_set f 2 _ (by omega) (by omega) (by omega))) (And.intro (HG2.out.off (c := w1.heap.size) (i := 2) (by omega) (.int .i64 (body.length : Nat))) (HB2.out.set_ (c := w1.heap.size) (i := 2) (by omega) (.int .i64 (body.length : Nat))))); clear hu2 hbx HG hB HG2 HB2 h2)
    | (show wpList _ _ _ ((⟨some 15, _, _, _, _, _⟩ : Oper) :: _) _ _; clear fz dz d16; generalize World.setCell w2 _ _ = w3 at HS ⊢; generalize w1.heap.size = hb at HS hlt ⊢; obtain ⟨hh, hG, hB⟩ := HS.out; clear HS; ((with_reducible show wpList _ _ _ ((⟨some 15, _, _, _, _, _⟩ : Oper) :: _) _ _); refine wpList_load_blk (o := ⟨some 15, _, _, _, _, _⟩) (hh) (by rfl) _ _ (by rfl) (by rfl) _ Tryz.underlying38 (by rfl) (sizeHd) (hdc_size _) ?_))
    | fail)
  refine (rhcheck_any _ w3).mono ?_
  rintro e w4 ⟨rfl, hbx⟩
  (replace hB := hB.trans (hbx.mono hB.size); clear hbx hG hh)
  rw [show Hd.code (setF f 2 body.length) = 2 by unfold Hd.code; rw [HNO.out]; rfl]
  go_wp2
  go_ret2
  exact ⟨rfl, hB⟩
set_option maxRecDepth 100000 in
set_option maxHeartbeats 4000000 in
theorem rhseal_ok (f : HdF) (A : Option Addr) (c : Nat) (body : List UInt8) (w : World) (hby : Bytes w A body) (hc : body.length ≤ c ∧ c ≤ 9223372036854775807) (hlong : body.length ≤ 1024) (hok : Hd.ok (setF f 2 body.length) = true) (hin : Hd.in_ f) :
    Calls Tryz.prog 83 #[.agg (msgc f (.slice A body.length c))] w fun e w' => ∃ v sp, e = .returned (.tuple #[v, .int .i64 0]) ∧
      OwnB 5 w' w.heap.size v (Hd.bytes (setF f 2 body.length) body) sp ∧ Below w.heap.size w w' := by
  have hg := Blk.new w 41 (msgc f (.slice A body.length c))
  have hB := Lib.hid ((Below.refl w.heap.size w).alloc (Nat.le_refl _) (.cells (msgc f (.slice A body.length c)) 41))
  have d16 := hg.at_ 16 (msgc_16 f _)
  have HR := Lib.hid (hd_range hg)
  have HG := Lib.hid hg
  have HOK := Lib.hid (And.intro hok (setF_in f body.length hin))
  have HC := Lib.hid hc
  clear hg hok hin hc
  go_enter Tryz.func83, Tryz.ntmps83
  go_wp2_with (first
    | (show wpList _ _ _ ((⟨some 10, _, _, _, _, _⟩ : Oper) :: _) _ _; refine wpList_load_mid (o := ⟨some 10, _, _, _, _, _⟩) HR.out (by rfl) _ _ (by rfl) (by rfl) _ Tryz.underlying38 (by rfl) sizeHd (by rw [Array.length_toList, hdc_size]) ?_; rw [Array.toArray_toList]; clear HR d16; generalize World.alloc w _ = w1 at HG hB ⊢; have hlt := HG.out.lt)
    | ((with_reducible show wpList _ _ _ ((⟨none, _, _, _, _, _⟩ : Oper) :: _) _ _); refine wpList_store_blk (o := ⟨none, _, _, _, _, _⟩) ((Blk.new w1 38 #[.int .i64 0, .int .i64 0, .int .i64 0, .int .i64 0, .int .i64 0, .int .i64 0, .int .i64 0, .int .i64 0, .int .i64 0, .int .u64 0, .int .u64 0, .int .i64 0, .int .i64 0, .int .u64 0, .int .i64 0, .int .i64 0]).sub zeroHd_cells.symm) (by rfl) _ _ _ (by rfl) (by rfl) (hdc f) (by rfl) (sizeHd) (hdc_size _) (hdc_size _) (hdc_one _) ?_; intro w2 h2 hu2; have hbx := ((Below.refl w1.heap.size w1).alloc (Nat.le_refl _) (.cells #[.int .i64 0, .int .i64 0, .int .i64 0, .int .i64 0, .int .i64 0, .int .i64 0, .int .i64 0, .int .i64 0, .int .i64 0, .int .u64 0, .int .u64 0, .int .i64 0, .int .i64 0, .int .u64 0, .int .i64 0, .int .i64 0] 38)).upd hu2 (Nat.le_refl _); have HG2 := Lib.hid (HG.out.below hbx hlt); have HB2 := Lib.hid (hB.out.trans (hbx.mono hB.out.size)); have d16 := HG2.out.at_ 16 (msgc_16 f _); have fz := h2.frozen 2; have dz := h2.at_ 2 (hdc_at f 2 (by omega) (by omega) (by omega) (by omega)); have HS := Lib.hid (And.intro ((h2.set_ 2 (.int .i64 (body.length : Nat))).sub (hdc_set f 2 _ (by omega) (by omega) (by omega))) (And.intro (HG2.out.off (c := w1.heap.size) (i := 2) (by omega) (.int .i64 (body.length : Nat))) (HB2.out.set_ (c := w1.heap.size) (i := 2) (by omega) (.int .i64 (body.length : Nat))))); clear hu2 hbx HG hB HG2 HB2 h2)
    | (show wpList _ _ _ ((⟨some 15, _, _, _, _, _⟩ : Oper) :: _) _ _; clear fz dz d16; generalize World.setCell w2 _ _ = w3 at HS ⊢; generalize w1.heap.size = hb at HS hlt ⊢; obtain ⟨hh, hG, hB⟩ := HS.out; clear HS; ((with_reducible show wpList _ _ _ ((⟨some 15, _, _, _, _, _⟩ : Oper) :: _) _ _); refine wpList_load_blk (o := ⟨some 15, _, _, _, _, _⟩) (hh) (by rfl) _ _ (by rfl) (by rfl) _ Tryz.underlying38 (by rfl) (sizeHd) (hdc_size _) ?_))
    | fail)
  have HBY := Lib.hid hby
  replace hby := Bytes.below hby hB
  refine (rhcheck_any _ w3).mono ?_
  rintro e w4 ⟨rfl, hbx⟩
  (replace hby := keep hbx hby; replace hh := keep hbx hh; replace hG := keep hbx hG; replace hB := hB.trans (hbx.mono hB.size); clear hbx)
  rw [show Hd.code (setF f 2 body.length) = 0 by unfold Hd.code; rw [HOK.out.1]; rfl]
  have hs16 := Sha.sum_length body
  obtain ⟨fx, hfx⟩ : ∃ fx, fx = setF f 2 body.length := ⟨_, rfl⟩
  rw [← hfx] at hh HOK ⊢
  have HSS := Lib.hid hs16
  have HFX := Lib.hid hfx
  clear hfx hs16
  go_wp2_with fail
  refine wp_region_tree (Below w4.heap.size w4) [] (PlanT.takes [1, 6] (PlanT.takes [0, 2, 7] (.opt 3 (.opt 4 (.opt 5 (.opt 8 (PlanT.takes [9, 10] .done) .no) .no) .no) .no))) (by kernel_rfl) (by kernel_rfl) ((Below.refl _ _).drew) ?_
  refine wpTree_pure _ _ _ (by rfl) (by rfl) ?_
  dsimp only [List.filterMap, List.getElem?_cons_zero, List.getElem?_cons_succ]
  repeat (go_big_quiet_step (fail))
  refine wpQuiet_nil ?_
  refine wpTree_takeL _ _ _ (by rfl) (by rfl) ((Below.refl _ _).drew) ?_
  dsimp only [List.filterMap, List.getElem?_cons_zero, List.getElem?_cons_succ]
  (refine wpQuiet_want' (by rfl) ?_; refine wpQuiet_load_blk (fun w' hw' => hh.below hw' hh.lt) (by rfl) _ _ (by rfl) (by rfl) _ Tryz.underlying38 (by rfl) (sizeHd) (hdc_size _) ?_; simp only [Act.put, List.setIfInBounds_toArray, List.set_cons_zero, List.set_cons_succ])
  (refine wpQuiet_want' (by rfl) ?_; refine wpQuiet_load_cell (fun w' hw' => (hG.below hw' hG.lt).at_ 16 (msgc_16 f _)) (by rfl) _ _ (by rfl) (by rfl) _ Tryz.underlying39 (by rfl) ?_; simp only [Act.put, List.setIfInBounds_toArray, List.set_cons_zero, List.set_cons_succ])
  (refine wpQuiet_want' (by rfl) ?_; refine wpQuiet_load_cell (fun w' hw' => (hG.below hw' hG.lt).at_ 16 (msgc_16 f _)) (by rfl) _ _ (by rfl) (by rfl) _ Tryz.underlying39 (by rfl) ?_; simp only [Act.put, List.setIfInBounds_toArray, List.set_cons_zero, List.set_cons_succ])
  refine wpQuiet_nil ?_
  refine wpTree_one _ rfl ?_
  go_wp2_with fail
  refine (rsum_any A c body HC.out.1 ⟨by omega, HC.out.2⟩ w4.drew hby).mono ?_
  rintro e w5 ⟨rfl, hb5⟩
  have hc5 : Below w4.heap.size w4 w5 := (Below.refl _ _).drew.trans (hb5.mono (Nat.le_refl _))
  clear hb5
  go_wp2_with fail
  refine TreeQ.in_ hc5 ?_
  refine wpTree_one _ rfl ?_
  go_wp2_with fail
  refine (rhbehind_any fx (Sha.sum body) HSS.out (Hd.ok_all HOK.out.1) HOK.out.2 w5).mono ?_
  rintro e w6 ⟨v6, sp6, rfl, ho6, hb6⟩
  have hc6 := hc5.trans (hb6.mono hc5.size)
  have hR : (Hd.rest fx (Sha.sum body)).length = 240 := Hd.rest_length fx _ HSS.out
  obtain ⟨A6, c6, rfl, hl6, hx6, hby6⟩ := OwnB.open_ ho6
  rw [hR] at hl6 ⊢
  clear hc5 hb6 ho6
  go_wp2_with fail
  refine TreeQ.in_ hc6 ?_
  refine wpTree_one _ rfl ?_
  go_wp2_with fail
  refine (rseal_any A6 240 c6 (Hd.rest fx (Sha.sum body)) hR.symm (by omega) ⟨by omega, hx6⟩ w6 hby6).mono ?_
  rintro e w7 ⟨v7, sp7, rfl, ho7, hb7⟩
  have hc7 := hc6.trans (hb7.mono hc6.size)
  have hby7 := Bytes.below hby hc7
  have hz6 := hc6.size
  have HHD : Hid (Sha.seal_ (Hd.rest fx (Sha.sum body)) = Hd.head fx (Sha.sum body)) := Lib.hid rfl
  rw [HHD.out] at ho7
  have hHl : (Hd.head fx (Sha.sum body)).length = 256 := Hd.head_length fx _ HSS.out
  have hz67 := hb7.size
  clear hc6 hb7 hby6 hR
  go_wp2_with fail
  refine TreeQ.in_ hc7 ?_
  refine wpTree_one _ rfl ?_
  obtain ⟨D, hD⟩ : ∃ D, D = Hd.head fx (Sha.sum body) := ⟨_, rfl⟩
  rw [← hD] at ho7 hHl
  have HD := Lib.hid hD
  have hz7 : w4.heap.size ≤ w7.heap.size := hc7.size
  clear hD
  go_wp2_with (first
    | ((with_reducible show wpList _ _ _ ((⟨some 26, _, _, _, _, _⟩ : Oper) :: _) _ _); refine wpList_append_bytes (o := ⟨some 26, _, _, _, _, _⟩) (by rfl) _ _ _ (by rfl) (w6.heap.size) _ Tryz.underlying39 u8info (_) (D) (sp7) (by rfl) (ho7) (A) (c) (body) (by first | rfl | simp) (hby7) (by first | omega | (simp; omega)) (hz67) ?_; intro v8 w8 sp8 ho8 hg8 _ _)
    | fail)
  have hc8 := hc7.grown hg8 hz7 (fun k hk => Nat.le_trans hz6 (OwnsC.lt ho7 k hk).1)
  refine TreeQ.in_ hc8 ?_
  refine wpTree_pure _ _ _ (by rfl) (by rfl) ?_
  dsimp only [List.filterMap, List.getElem?_cons_zero, List.getElem?_cons_succ]
  repeat (go_big_quiet_step (fail))
  refine wpQuiet_nil ?_
  refine wpTree_done ?_
  have HX := Lib.hid (And.intro ho8 (hB.trans (hc8.mono hB.size)))
  have hzB := hB.size
  clear ho8 hc8 hc7 hg8 ho7 hby7 hby hG hh hB
  go_wp2
  go_ret2
  refine ⟨_, sp8, rfl, ?_, HX.out.2⟩
  have h := OwnsC.base_ HX.out.1 (show w.heap.size ≤ w6.heap.size by omega)
  rw [HD.out, HFX.out] at h
  exact h
end Go.Proofs.YtfoegmjpfkmggaaGreatDoor

/- The plain seal, reckoned with natural numbers, so that the kernel can reckon it of long bytes. Plain facts. No condition. -/
namespace Go
namespace ShaN
/-- A number reckoned ahead of what uses it. -/
def force {α : Type} (n : Nat) (f : Nat → α) : α := match n with
  | 0 => f 0
  | k + 1 => f (k + 1)
theorem force_eq {α : Type} (n : Nat) (f : Nat → α) : force n f = f n := by cases n <;> rfl
def rot (x n : Nat) : Nat := Nat.lor (Nat.shiftRight x n) (Nat.mod (Nat.shiftLeft x (32 - n)) 4294967296)
def sg0 (x : Nat) : Nat := Nat.xor (Nat.xor (rot x 7) (rot x 18)) (Nat.shiftRight x 3)
def sg1 (x : Nat) : Nat := Nat.xor (Nat.xor (rot x 17) (rot x 19)) (Nat.shiftRight x 10)
def tt1 (k w e f g h : Nat) : Nat := Nat.mod (h + Nat.xor (Nat.xor (rot e 6) (rot e 11)) (rot e 25) + Nat.xor (Nat.land e f) (Nat.land (4294967295 - e) g) + k + w) 4294967296
def tt2 (a b c : Nat) : Nat := Nat.xor (Nat.xor (rot a 2) (rot a 13)) (rot a 22) + Nat.xor (Nat.xor (Nat.land a b) (Nat.land a c)) (Nat.land b c)
def nextN (w0 w1 w9 w14 : Nat) : Nat := Nat.mod (sg1 w14 + w9 + sg0 w1 + w0) 4294967296
/-- Some rounds; 16 words ahead are known. -/
def go : List Nat → List Nat → Nat → Nat → Nat → Nat → Nat → Nat → Nat → Nat → List Nat
  | [], _, a, b, c, d, e, f, g, h => [a, b, c, d, e, f, g, h]
  | k :: ks, ws, a, b, c, d, e, f, g, h =>
    force (ws.getD 0 0) fun w0 =>
    force (tt1 k w0 e f g h) fun t1 =>
    force (Nat.mod (t1 + tt2 a b c) 4294967296) fun a' =>
    force (Nat.mod (d + t1) 4294967296) fun e' =>
    force (nextN w0 (ws.getD 1 0) (ws.getD 9 0) (ws.getD 14 0)) fun wn =>
    go ks (ws.drop 1 ++ [wn]) a' a b c e' e f g
def toL (s : Sha.St) : List Nat := [s.a.toNat, s.b.toNat, s.c.toNat, s.d.toNat, s.e.toNat, s.f.toNat, s.g.toNat, s.h.toNat]
theorem rot_eq (x : UInt32) (n : Nat) (h0 : 0 < n) (h : n < 32) : rot x.toNat n = (Sha.rotr x n).toNat := by
  unfold rot Sha.rotr
  rw [UInt32.toNat_or, u32_shr_nat x n h, u32_shl_nat x (32 - n) (by omega)]
  show Nat.lor (x.toNat >>> n) ((x.toNat <<< (32 - n)) % 4294967296) = _
  rw [Nat.shiftRight_eq_div_pow, Nat.shiftLeft_eq]; rfl
theorem sg0_eq (x : UInt32) : sg0 x.toNat = (Sha.s0 x).toNat := by
  unfold sg0 Sha.s0
  rw [UInt32.toNat_xor, UInt32.toNat_xor, rot_eq x 7 (by omega) (by omega), rot_eq x 18 (by omega) (by omega)]
  have := u32_shr_nat x 3 (by omega)
  rw [show (x >>> (3 : UInt32)) = x >>> UInt32.ofNat 3 from rfl, this]
  show Nat.xor _ (x.toNat >>> 3) = _
  rw [Nat.shiftRight_eq_div_pow]; rfl
theorem sg1_eq (x : UInt32) : sg1 x.toNat = (Sha.s1 x).toNat := by
  unfold sg1 Sha.s1
  rw [UInt32.toNat_xor, UInt32.toNat_xor, rot_eq x 17 (by omega) (by omega), rot_eq x 19 (by omega) (by omega)]
  have := u32_shr_nat x 10 (by omega)
  rw [show (x >>> (10 : UInt32)) = x >>> UInt32.ofNat 10 from rfl, this]
  show Nat.xor _ (x.toNat >>> 10) = _
  rw [Nat.shiftRight_eq_div_pow]; rfl
theorem not_eq (x : UInt32) : 4294967295 - x.toNat = (~~~x).toNat := by
  rw [UInt32.toNat_not]; simp [UInt32.size]
theorem tt1_eq (k w : UInt32) (s : Sha.St) : tt1 k.toNat w.toNat s.e.toNat s.f.toNat s.g.toNat s.h.toNat = (Sha.t1 k w s).toNat := by
  unfold tt1 Sha.t1
  rw [not_eq, rot_eq s.e 6 (by omega) (by omega), rot_eq s.e 11 (by omega) (by omega), rot_eq s.e 25 (by omega) (by omega)]
  simp only [UInt32.toNat_add, UInt32.toNat_xor, UInt32.toNat_and]
  show (_ + (_ ^^^ _ ^^^ _) + ((_ &&& _) ^^^ (_ &&& _)) + _ + _) % 4294967296 = _
  omega
theorem tt2_eq (s : Sha.St) : tt2 s.a.toNat s.b.toNat s.c.toNat % 4294967296 = (Sha.t2 s).toNat := by
  unfold tt2 Sha.t2
  rw [rot_eq s.a 2 (by omega) (by omega), rot_eq s.a 13 (by omega) (by omega), rot_eq s.a 22 (by omega) (by omega)]
  simp only [UInt32.toNat_add, UInt32.toNat_xor, UInt32.toNat_and]
  rfl
theorem next_eq (w0 w1 w9 w14 : UInt32) : nextN w0.toNat w1.toNat w9.toNat w14.toNat = (Sha.s1 w14 + w9 + Sha.s0 w1 + w0).toNat := by
  unfold nextN
  rw [sg1_eq, sg0_eq]
  simp only [UInt32.toNat_add]
  show (_ + _ + _ + _) % 4294967296 = _
  omega
/-- Rounds from t on. -/
theorem go_eq (m : Nat → UInt32) (s : Sha.St) : ∀ (n t : Nat), t + n = 64 →
    go ((Sha.kl.drop t).map (·.toNat)) ((List.range 16).map fun i => (Sha.wd m (t + i)).toNat) (Sha.rounds m s t).a.toNat (Sha.rounds m s t).b.toNat (Sha.rounds m s t).c.toNat (Sha.rounds m s t).d.toNat (Sha.rounds m s t).e.toNat (Sha.rounds m s t).f.toNat (Sha.rounds m s t).g.toNat (Sha.rounds m s t).h.toNat
      = toL (Sha.rounds m s 64)
  | 0, t, h => by
    obtain rfl : t = 64 := by omega
    have : Sha.kl.drop 64 = [] := rfl
    rw [this]; rfl
  | n + 1, t, h => by
    have hk : Sha.kl.drop t = Sha.kt t :: Sha.kl.drop (t + 1) := by
      have hl : t < Sha.kl.length := by show t < 64; omega
      rw [List.drop_eq_getElem_cons hl]
      congr 1
      unfold Sha.kt
      simp [List.getD, hl]
    rw [hk, List.map_cons]
    unfold go
    simp only [force_eq]
    have e0 : ((List.range 16).map fun i => (Sha.wd m (t + i)).toNat).getD 0 0 = (Sha.wd m t).toNat := rfl
    have e1 : ((List.range 16).map fun i => (Sha.wd m (t + i)).toNat).getD 1 0 = (Sha.wd m (t + 1)).toNat := rfl
    have e9 : ((List.range 16).map fun i => (Sha.wd m (t + i)).toNat).getD 9 0 = (Sha.wd m (t + 9)).toNat := rfl
    have e14 : ((List.range 16).map fun i => (Sha.wd m (t + i)).toNat).getD 14 0 = (Sha.wd m (t + 14)).toNat := rfl
    rw [e0, e1, e9, e14, tt1_eq, next_eq]
    have hw : (Sha.s1 (Sha.wd m (t + 14)) + Sha.wd m (t + 9) + Sha.s0 (Sha.wd m (t + 1)) + Sha.wd m t) = Sha.wd m (t + 16) := by
      rw [Sha.wd_hi m (show 16 ≤ t + 16 by omega)]
      rw [show t + 16 - 2 = t + 14 by omega, show t + 16 - 7 = t + 9 by omega, show t + 16 - 15 = t + 1 by omega, show t + 16 - 16 = t by omega]
    rw [hw]
    have hwin : ((List.range 16).map fun i => (Sha.wd m (t + i)).toNat).drop 1 ++ [(Sha.wd m (t + 16)).toNat] = (List.range 16).map fun i => (Sha.wd m (t + 1 + i)).toNat := by
      have : ∀ i, Sha.wd m (t + 1 + i) = Sha.wd m (t + (1 + i)) := fun i => by rw [Nat.add_assoc]
      simp only [this]
      rfl
    rw [hwin]
    have hr : Sha.rounds m s (t + 1) = Sha.round (Sha.kt t) (Sha.wd m t) (Sha.rounds m s t) := rfl
    have ha : ((Sha.t1 (Sha.kt t) (Sha.wd m t) (Sha.rounds m s t)).toNat + tt2 (Sha.rounds m s t).a.toNat (Sha.rounds m s t).b.toNat (Sha.rounds m s t).c.toNat).mod 4294967296 = (Sha.rounds m s (t + 1)).a.toNat := by
      rw [hr]
      show (_ + _) % 4294967296 = (Sha.t1 _ _ _ + Sha.t2 _).toNat
      rw [UInt32.toNat_add, ← tt2_eq]
      omega
    have he : ((Sha.rounds m s t).d.toNat + (Sha.t1 (Sha.kt t) (Sha.wd m t) (Sha.rounds m s t)).toNat).mod 4294967296 = (Sha.rounds m s (t + 1)).e.toNat := by
      rw [hr]
      show (_ + _) % 4294967296 = ((Sha.rounds m s t).d + Sha.t1 _ _ _).toNat
      rw [UInt32.toNat_add]
    rw [ha, he]
    have := go_eq m s n (t + 1) (by omega)
    rw [← this]
    rfl
def beN (a b c d : Nat) : Nat := Nat.lor (Nat.lor (Nat.lor (Nat.mod (Nat.shiftLeft a 24) 4294967296) (Nat.mod (Nat.shiftLeft b 16) 4294967296)) (Nat.mod (Nat.shiftLeft c 8) 4294967296)) d
theorem beN_eq (a b c d : UInt8) : beN a.toNat b.toNat c.toNat d.toNat = (Sha.be a b c d).toNat := by
  unfold beN Sha.be
  have e : ∀ (x : UInt8) (n : Nat), n < 32 → (Nat.shiftLeft x.toNat n).mod 4294967296 = (x.toUInt32 <<< UInt32.ofNat n).toNat := fun x n h => by
    rw [u32_shl_nat _ n h, UInt8.toNat_toUInt32]
    show (x.toNat <<< n) % _ = _
    rw [Nat.shiftLeft_eq]
  rw [UInt32.toNat_or, UInt32.toNat_or, UInt32.toNat_or, UInt8.toNat_toUInt32, e a 24 (by omega), e b 16 (by omega), e c 8 (by omega)]
  rfl
def w4 : List Nat → List Nat
  | a :: b :: c :: d :: r => force (beN a b c d) fun w => w :: w4 r
  | _ => []
theorem w4_eq (l : List UInt8) : ∀ (n at_ : Nat), at_ + 4 * n ≤ l.length → w4 (((l.drop at_).take (4 * n)).map (·.toNat)) = (List.range n).map fun t => (Sha.word l at_ t).toNat
  | 0, at_, _ => by simp [w4]
  | n + 1, at_, h => by
    have e4 : (l.drop at_).take (4 * (n + 1)) = l.getD at_ 0 :: l.getD (at_ + 1) 0 :: l.getD (at_ + 2) 0 :: l.getD (at_ + 3) 0 :: (l.drop (at_ + 4)).take (4 * n) := by
      have hg : ∀ i, i < l.length → l.drop i = l.getD i 0 :: l.drop (i + 1) := fun i hi => by
        rw [List.drop_eq_getElem_cons hi]; congr 1; simp [List.getD, hi]
      rw [hg at_ (by omega), hg (at_ + 1) (by omega), hg (at_ + 1 + 1) (by omega), hg (at_ + 1 + 1 + 1) (by omega)]
      rw [show 4 * (n + 1) = 4 * n + 1 + 1 + 1 + 1 by omega]
      simp only [List.take_succ_cons]
    rw [e4]
    simp only [List.map_cons, w4, force_eq]
    rw [w4_eq l n (at_ + 4) (by omega), beN_eq, List.range_succ_eq_map, List.map_cons, List.map_map]
    have hw0 : Sha.word l at_ 0 = Sha.be (l.getD at_ 0) (l.getD (at_ + 1) 0) (l.getD (at_ + 2) 0) (l.getD (at_ + 3) 0) := rfl
    rw [hw0]
    refine congrArg (List.cons _) ?_
    apply List.map_congr_left
    intro t _
    simp only [Function.comp, Sha.word]
    rw [show at_ + 4 + 4 * t = at_ + 4 * (t + 1) by omega]
def kN : List Nat := [
  0x428a2f98, 0x71374491, 0xb5c0fbcf, 0xe9b5dba5, 0x3956c25b, 0x59f111f1, 0x923f82a4, 0xab1c5ed5,
  0xd807aa98, 0x12835b01, 0x243185be, 0x550c7dc3, 0x72be5d74, 0x80deb1fe, 0x9bdc06a7, 0xc19bf174,
  0xe49b69c1, 0xefbe4786, 0x0fc19dc6, 0x240ca1cc, 0x2de92c6f, 0x4a7484aa, 0x5cb0a9dc, 0x76f988da,
  0x983e5152, 0xa831c66d, 0xb00327c8, 0xbf597fc7, 0xc6e00bf3, 0xd5a79147, 0x06ca6351, 0x14292967,
  0x27b70a85, 0x2e1b2138, 0x4d2c6dfc, 0x53380d13, 0x650a7354, 0x766a0abb, 0x81c2c92e, 0x92722c85,
  0xa2bfe8a1, 0xa81a664b, 0xc24b8b70, 0xc76c51a3, 0xd192e819, 0xd6990624, 0xf40e3585, 0x106aa070,
  0x19a4c116, 0x1e376c08, 0x2748774c, 0x34b0bcb5, 0x391c0cb3, 0x4ed8aa4a, 0x5b9cca4f, 0x682e6ff3,
  0x748f82ee, 0x78a5636f, 0x84c87814, 0x8cc70208, 0x90befffa, 0xa4506ceb, 0xbef9a3f7, 0xc67178f2]
theorem kN_eq : Sha.kl.map (·.toNat) = kN := by decide +kernel
/-- Numbers reckoned ahead of what uses them. -/
def forceL {α : Type} : List Nat → (List Nat → α) → α
  | [], f => f []
  | n :: l, f => force n fun m => forceL l fun r => f (m :: r)
theorem forceL_eq {α : Type} : ∀ (l : List Nat) (f : List Nat → α), forceL l f = f l
  | [], _ => rfl
  | n :: l, f => by simp only [forceL, force_eq, forceL_eq l]
def addL : List Nat → List Nat → List Nat
  | a :: l, b :: m => Nat.mod (a + b) 4294967296 :: addL l m
  | _, _ => []
def blkN (s : List Nat) (bytes : List Nat) : List Nat := match s with
  | [a, b, c, d, e, f, g, h] => addL s (go kN (w4 bytes) a b c d e f g h)
  | _ => []
theorem blkN_eq (s : Sha.St) (l : List UInt8) (at_ : Nat) (h : at_ + 64 ≤ l.length) : blkN (toL s) (((l.drop at_).take 64).map (·.toNat)) = toL (Sha.blk s l at_) := by
  have hw := w4_eq l 16 at_ h
  unfold blkN toL
  simp only []
  rw [show (64 : Nat) = 4 * 16 from rfl, hw]
  have hwd : ((List.range 16).map fun t => (Sha.word l at_ t).toNat) = (List.range 16).map fun i => (Sha.wd (Sha.word l at_) (0 + i)).toNat := by
    apply List.map_congr_left
    intro t ht
    rw [Nat.zero_add, Sha.wd_lo _ (List.mem_range.1 ht)]
  have := go_eq (Sha.word l at_) s 64 0 rfl
  rw [← hwd, List.drop_zero, kN_eq] at this
  have e0 : Sha.rounds (Sha.word l at_) s 0 = s := rfl
  rw [e0] at this
  rw [this]
  unfold Sha.blk Sha.add toL
  simp only [addL, UInt32.toNat_add]
  rfl
def blksN : Nat → List Nat → List Nat → List Nat
  | 0, _, s => s
  | n + 1, l, s => forceL (blkN s (l.take 64)) fun s' => blksN n (l.drop 64) s'
theorem blksN_eq (l : List UInt8) (s : Sha.St) : ∀ (n k : Nat), 64 * (k + n) ≤ l.length → blksN n ((l.drop (64 * k)).map (·.toNat)) (toL (Sha.blks l s k)) = toL (Sha.blks l s (k + n))
  | 0, k, _ => rfl
  | n + 1, k, h => by
    simp only [blksN, forceL_eq]
    rw [← List.map_take, blkN_eq _ _ _ (by omega), ← List.map_drop, List.drop_drop]
    have : toL (Sha.blk (Sha.blks l s k) l (64 * k)) = toL (Sha.blks l s (k + 1)) := rfl
    rw [this, show 64 * k + 64 = 64 * (k + 1) by omega, blksN_eq l s n (k + 1) (by omega)]
    congr 2; omega
def outN (s : List Nat) : List Nat := (List.range 16).map fun k => Nat.mod (Nat.div (s.getD (k / 4) 0) (2 ^ (24 - 8 * (k % 4)))) 256
def initN : List Nat := [0x6a09e667, 0xbb67ae85, 0x3c6ef372, 0xa54ff53a, 0x510e527f, 0x9b05688c, 0x1f83d9ab, 0x5be0cd19]
/-- The seal of bytes. -/
def sumN (l : List Nat) (tl : List Nat) (n : Nat) : List Nat := outN (blksN n (l ++ tl) initN)
theorem sumN_eq (l : List UInt8) (n : Nat) (hn : n = (l.length + Sha.zeros l.length + 9) / 64) : (Sha.sum l).map (·.toNat) = sumN (l.map (·.toNat)) ((Sha.tail l.length).map (·.toNat)) n := by
  unfold sumN Sha.sum
  have hlen : (Sha.pad l).length / 64 = n := by rw [Sha.pad_length, hn]
  rw [hlen]
  have h1 := blksN_eq (Sha.pad l) Sha.init n 0 (by rw [Sha.pad_length]; have := Sha.pad_mod l; rw [Sha.pad_length] at this; omega)
  rw [Nat.mul_zero, List.drop_zero, Nat.zero_add] at h1
  have h0 : toL (Sha.blks (Sha.pad l) Sha.init 0) = initN := by
    show toL Sha.init = initN
    decide +kernel
  rw [h0] at h1
  have hp : (Sha.pad l).map (·.toNat) = l.map (·.toNat) ++ (Sha.tail l.length).map (·.toNat) := by unfold Sha.pad; rw [List.map_append]
  rw [← hp, h1]
  unfold Sha.out outN
  rw [List.map_map]
  apply List.map_congr_left
  intro k hk
  have hk16 := List.mem_range.1 hk
  simp only [Function.comp, Sha.outAt, Sha.byte]
  have hg : (toL (Sha.blks (Sha.pad l) Sha.init n)).getD (k / 4) 0 = (Sha.get (Sha.blks (Sha.pad l) Sha.init n) (k / 4)).toNat := by
    have : k / 4 = 0 ∨ k / 4 = 1 ∨ k / 4 = 2 ∨ k / 4 = 3 := by omega
    rcases this with h | h | h | h <;> rw [h] <;> rfl
  rw [hg]
  exact UInt8.toNat_ofNat_of_lt' (by have := Nat.mod_lt ((Sha.get (Sha.blks (Sha.pad l) Sha.init n) (k / 4)).toNat / 2 ^ (24 - 8 * (k % 4))) (show 0 < 256 by omega); simpa [UInt8.size] using this)
theorem toNat_inj : ∀ {l m : List UInt8}, l.map (·.toNat) = m.map (·.toNat) → l = m
  | [], [], _ => rfl
  | [], _ :: _, h => by cases h
  | _ :: _, [], h => by cases h
  | a :: l, b :: m, h => by
    simp only [List.map_cons, List.cons.injEq] at h
    rw [UInt8.toNat_inj.1 h.1, toNat_inj h.2]
end ShaN
end Go

/- The chapter's message: its bytes, told by reckoning; what is written is read. No condition. -/
namespace Go.Proofs.YtfoegmjpfkmggaaGreatDoor
theorem Msg.read_bytes (f : HdF) (body : List UInt8) (hok : Hd.ok f = true) (hin : Hd.in_ f) (h2 : f 2 = (body.length : Int)) :
    Hd.same (Hd.parse ((Hd.bytes f body).take 256)) f ∧ Msg.read (Hd.bytes f body) = (0, Hd.parse ((Hd.bytes f body).take 256), body) := by
  have hs : (Sha.sum body).length = 16 := Sha.sum_len body
  have hl := Hd.head_length f _ hs
  have e1 : (Hd.bytes f body).take 256 = Hd.head f (Sha.sum body) := by unfold Hd.bytes; rw [← hl, List.take_left]
  have e2 : (Hd.bytes f body).drop 256 = body := by unfold Hd.bytes; rw [← hl, List.drop_left]
  obtain ⟨h0, hsame⟩ := Hd.read_head f _ hs hok hin
  have hp : (Hd.read (Hd.head f (Sha.sum body))).2 = Hd.parse (Hd.head f (Sha.sum body)) := by
    rcases Hd.read_cases (Hd.head f (Sha.sum body)) with (h | h) | ⟨h, -⟩
    · rw [h] at h0; simp at h0
    · rw [h] at h0; simp at h0
    · rw [h]
  rw [hp] at hsame
  have e3 : ((Hd.bytes f body).drop 16).take 16 = Sha.sum body := by
    unfold Hd.bytes Hd.head Hd.rest
    simp only [List.append_assoc]
    rw [← Sha.sum_len (Hd.rest f (Sha.sum body)), show Sha.sum (Hd.rest f (Sha.sum body)) = Sha.sum (Sha.sum body ++ (Hd.mid f ++ List.replicate 148 0)) from rfl, List.drop_left, Sha.sum_len, ← hs, List.take_left]
  have hlen : (Hd.bytes f body).length = 256 + body.length := by unfold Hd.bytes; rw [List.length_append, hl]
  rw [e1]
  refine ⟨hsame, ?_⟩
  unfold Msg.read
  rw [if_neg (by omega), e1, if_neg (by rw [h0]; simp), if_neg (by rw [hsame 2 (by omega), h2, hlen, Nat.add_sub_cancel_left]; simp), e2, e3, if_neg (by simp)]
/-- What is opened is a message that is sealed as the same bytes. -/
theorem Msg.read_ok (r : List UInt8) (h : (Msg.read r).1 = 0) : 256 ≤ r.length ∧ Msg.read r = (0, Hd.parse (r.take 256), r.drop 256) ∧ Hd.ok (Hd.parse (r.take 256)) = true ∧ Hd.parse (r.take 256) 2 = ((r.drop 256).length : Int) ∧
    Hd.bytes (Hd.parse (r.take 256)) (r.drop 256) = r ∧ Sha.sum (r.drop 256) = (r.drop 16).take 16 ∧ Sha.sum ((r.take 256).drop 16) = r.take 16 := by
  unfold Msg.read at h ⊢
  by_cases h1 : r.length < 256
  · rw [if_pos h1] at h; simp at h
  rw [if_neg h1] at h ⊢
  by_cases h2 : (Hd.read (r.take 256)).1 ≠ 0
  · rw [if_pos h2] at h; exact absurd h h2
  rw [if_neg h2] at h ⊢
  by_cases h3 : ((r.length - 256 : Nat) : Int) ≠ Hd.parse (r.take 256) 2
  · rw [if_pos h3] at h; simp at h
  rw [if_neg h3] at h ⊢
  by_cases h4 : Sha.sum (r.drop 256) ≠ (r.drop 16).take 16
  · rw [if_pos h4] at h; simp at h
  rw [if_neg h4]
  have h4' : Sha.sum (r.drop 256) = (r.drop 16).take 16 := by simpa using h4
  have h3' : ((r.length - 256 : Nat) : Int) = Hd.parse (r.take 256) 2 := by simpa using h3
  rcases Hd.read_cases (r.take 256) with (hx | hx) | ⟨hx, hl, hok, hh⟩
  · rw [hx] at h2; simp at h2
  · rw [hx] at h2; simp at h2
  have e : ((r.take 256).drop 16).take 16 = (r.drop 16).take 16 := by rw [List.drop_take, List.take_take]; simp
  rw [e, ← h4'] at hh
  refine ⟨by omega, rfl, hok, by rw [← h3', List.length_drop], ?_, h4', ?_⟩
  · unfold Hd.bytes; rw [hh, List.take_append_drop]
  · have hx2 : Sha.sum ((r.take 256).drop 16) = (r.take 256).take 16 := by
      by_cases hc : Sha.sum ((r.take 256).drop 16) = (r.take 256).take 16
      · exact hc
      · exfalso
        unfold Hd.read at hx
        rw [if_neg (by rw [hl]; simp), if_pos hc] at hx
        simp at hx
    rw [hx2, List.take_take]; simp
theorem Hd.bytes_length (f : HdF) (body : List UInt8) : (Hd.bytes f body).length = 256 + body.length := by
  unfold Hd.bytes; rw [List.length_append, Hd.head_length f _ (Sha.sum_len body)]
/-! ### The chapter's message -/
def f12 : HdF := fun i => if i = 0 then 1 else if i = 2 then 2 else 0
end Go.Proofs.YtfoegmjpfkmggaaGreatDoor
