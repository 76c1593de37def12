/- The document's mixing in of a block answers what the plain function says. Condition: there are 64 bytes from the place on. -/
import Derived.Test.YtfpcldnefpmgcaaBlock
namespace Go.Proofs.Ytfpcldnefpmgcaa
open Go.RowKit
theorem size8r : (Try.prog.info? 62).map (·.size) = some 8 := by kernel_rfl
set_option maxHeartbeats 1000000 in
set_option maxRecDepth 100000 in
theorem rblock_any (hs : Sha.St) (b off n c : Nat) (bs : List UInt8) (at_ : Nat) (hn : n = bs.length) (h64 : at_ + 64 ≤ n) (_hn2 : n ≤ 140737488400000)
   (w : World) (hbl : b < w.heap.size) (hb : ∀ j, j < n → w.cell? ⟨b, off + j, none⟩ = some (.int .u8 (iu8 (bs.getD j 0)))) :
    Calls Try.prog 43 #[.agg (st8 hs), .agg karr, .slice (some ⟨b, off, none⟩) n c, .int .i64 at_] w fun e w' => e = .returned (.agg (st8 (Sha.blk hs bs at_))) ∧ Below w.heap.size w w' := by
  have a64 := alloc64
  have HN := Lib.hid hn; clear hn
  have HB := Lib.hid hb; clear hb
  go_enter Try.func43, Try.ntmps43
  go_wp2
  go_loopw [10] (fun i wr => ∃ t : Nat, t ≤ 64 ∧ i = .int .i64 t ∧ BInv 62 w wr hs (Sha.word bs at_) t) (fun i _ => 64 - (intOf i).toNat)
  case atStart => exact ⟨0, by omega, rfl, BInv.new _ w hs _⟩
  case round =>
    obtain ⟨t, ht, rfl, hI⟩ := hrel
    by_cases hlt : t < 16
    · have hlt64 : t < 64 := by omega
      go_wp2
      go_loopw [11] (fun i wr => ∃ k : Nat, k ≤ 4 ∧ i = .int .i64 k ∧ PInv 62 w wr hs (Sha.word bs at_) t (Sha.part bs at_ t k)) (fun i _ => 4 - (intOf i).toNat)
      case atStart => exact ⟨0, by omega, rfl, hI.part⟩
      case round =>
        clear hI
        obtain ⟨k, hk, rfl, hI⟩ := hrel
        by_cases hk4 : k < 4
        · obtain ⟨x0, h0⟩ : ∃ x, x = bs.getD (at_ + 4 * t + k) 0 := ⟨_, rfl⟩
          obtain ⟨y, hy⟩ : ∃ x, x = Sha.part bs at_ t k := ⟨_, rfl⟩
          have c0 := (hI.bel.cell (p := ⟨b, off + (at_ + 4 * t + k), none⟩) hbl).trans (HB.out (at_ + 4 * t + k) (by omega))
          rw [← h0] at c0
          rw [← hy] at hI
          have HW := Lib.hid (show Sha.part bs at_ t (k + 1) = (y <<< 8) ||| x0.toUInt32 by rw [hy, h0]; rfl)
          clear h0 hy
          have c4 := hI.get (by omega)
          have c5 := hI.ww.frozen t
          go_wp2
          refine wp_region_tail 17 (by kernel_rfl) (by kernel_rfl) ?_
          simp only [List.take_succ_cons, List.take_zero, List.drop_succ_cons, List.drop_zero]
          repeat (go_big_quiet_step (fail))
          refine wpQuiet_nil ?_
          go_wp2
          go_roundw
          case rel => exact ⟨k + 1, by omega, by go_num, by rw [HW.out]; exact hI.store _⟩
          case measure => simp [intOf]; omega
        · obtain rfl : k = 4 := by omega
          go_wp2
          go_roundw
          case rel => exact ⟨t + 1, by omega, by go_num, hI.whole (by rw [Sha.part_four]; exact (Sha.wd_lo _ hlt).symm)⟩
          case measure => simp [intOf]; omega
    · have ht1 : 16 ≤ t := by omega
      by_cases hlt : t < 64
      · go_wp2
        obtain ⟨y2, h2⟩ : ∃ y : UInt32, y = Sha.wd (Sha.word bs at_) (t - 2) := ⟨_, rfl⟩
        obtain ⟨y7, h7⟩ : ∃ y : UInt32, y = Sha.wd (Sha.word bs at_) (t - 7) := ⟨_, rfl⟩
        obtain ⟨y15, h15⟩ : ∃ y : UInt32, y = Sha.wd (Sha.word bs at_) (t - 15) := ⟨_, rfl⟩
        obtain ⟨y16, h16⟩ : ∃ y : UInt32, y = Sha.wd (Sha.word bs at_) (t - 16) := ⟨_, rfl⟩
        have HW := Lib.hid (show Sha.wd (Sha.word bs at_) t = Sha.s1 y2 + y7 + Sha.s0 y15 + y16 by rw [h2, h7, h15, h16]; exact Sha.wd_hi _ ht1)
        have c15 := hI.get (i := t - 15) (by omega) (by omega)
        rw [← h15] at c15
        have H2 := Lib.hid h2; have H7 := Lib.hid h7; have H15 := Lib.hid h15; have H16 := Lib.hid h16
        clear h2 h7 h15 h16
        go_quiet ((go_at_call 53; exact Calls.quiet_of (right_any _ _ (by omega) (by omega) _)))
        go_wp2
        have hI1 := hI.drewN nq
        clear hI c15
        generalize wr.drewN nq = w1 at hI1 ⊢
        have c2 := hI1.get (i := t - 2) (by omega) (by omega)
        rw [← H2.out] at c2
        go_quiet ((go_at_call 53; exact Calls.quiet_of (right_any _ _ (by omega) (by omega) _)))
        go_wp2
        have hI2 := hI1.drewN nq
        clear hI1 c2
        generalize w1.drewN nq = w2 at hI2 ⊢
        have c7 := hI2.get (i := t - 7) (by omega) (by omega)
        have c16 := hI2.get (i := t - 16) (by omega) (by omega)
        rw [← H7.out] at c7
        rw [← H16.out] at c16
        have c0 := hI2.get' hlt
        have cf := hI2.ww.frozen t
        refine wp_region_tail 15 (by kernel_rfl) (by kernel_rfl) ?_
        simp only [List.take_succ_cons, List.take_zero, List.drop_succ_cons, List.drop_zero]
        repeat (go_big_quiet_step (fail))
        refine wpQuiet_nil ?_
        go_wp2
        go_roundw
        case rel => exact ⟨t + 1, by omega, by go_num, hI2.store _ (HW.out)⟩
        case measure => simp [intOf]; omega
      · obtain rfl : t = 64 := by omega
        clear ht ht1 hlt
        have hX := hI.ww.lt
        have hz8 := zero8_new 62 wr
        go_wp2_with (first
          | (refine wpList_load_blk (o := ⟨some 95, _, _, _, _, _⟩) hI.hh (by rfl) _ _ (by rfl) (by rfl) _ Try.underlying62 (by rfl) size8r (st8_size _) ?_)
          | (show wpList _ _ _ ((⟨none, _, _, _, _, _⟩ : Oper) :: _) _ _; (refine wpList_store_blk (o := ⟨none, _, _, _, _, _⟩) hz8 (by rfl) _ _ _ (by rfl) (by rfl) (st8 hs) (by rfl) size8r zero8_size (st8_size _) (st8_one _) ?_; intro w3 hx3 hu3; have hI3 := (hI.alloc _).upd hu3 (by omega); clear hI hu3 hz8)))
        generalize wr.heap.size = X at hX hx3 ⊢
        go_loopw [15] (fun i wr => ∃ t : Nat, t ≤ 64 ∧ i = .int .i64 t ∧ BInv 62 w wr hs (Sha.word bs at_) 64 ∧ Blk wr X 62 (st8 (Sha.rounds (Sha.word bs at_) hs t))) (fun i _ => 64 - (intOf i).toNat)
        case atStart => exact ⟨0, by omega, rfl, hI3, hx3⟩
        case round =>
          clear hI3 hx3
          obtain ⟨t, ht, rfl, hI, hx⟩ := hrel
          by_cases hlt : t < 64
          · obtain ⟨s, hs'⟩ : ∃ s, s = Sha.rounds (Sha.word bs at_) hs t := ⟨_, rfl⟩
            rw [← hs'] at hx
            obtain ⟨k, hk'⟩ : ∃ k, k = Sha.kt t := ⟨_, rfl⟩
            obtain ⟨y, hy'⟩ : ∃ k, k = Sha.wd (Sha.word bs at_) t := ⟨_, rfl⟩
            have HS := Lib.hid (show Sha.rounds (Sha.word bs at_) hs (t + 1) = Sha.round k y s by rw [hs', hk', hy']; rfl)
            have HK := Lib.hid hk'
            have HY := Lib.hid hy'
            clear hs' hk' hy'
            go_wp2
            have r0 : wr.cell? ⟨X, 0, none⟩ = some (.int .u32 (iu32 s.a)) := hx.cell 0
            have r1 : wr.cell? ⟨X, 1, none⟩ = some (.int .u32 (iu32 s.b)) := hx.cell 1
            have r2 : wr.cell? ⟨X, 2, none⟩ = some (.int .u32 (iu32 s.c)) := hx.cell 2
            have r3 : wr.cell? ⟨X, 3, none⟩ = some (.int .u32 (iu32 s.d)) := hx.cell 3
            have r4 : wr.cell? ⟨X, 4, none⟩ = some (.int .u32 (iu32 s.e)) := hx.cell 4
            have r5 : wr.cell? ⟨X, 5, none⟩ = some (.int .u32 (iu32 s.f)) := hx.cell 5
            have r6 : wr.cell? ⟨X, 6, none⟩ = some (.int .u32 (iu32 s.g)) := hx.cell 6
            have r7 : wr.cell? ⟨X, 7, none⟩ = some (.int .u32 (iu32 s.h)) := hx.cell 7
            have rw := hI.get (i := t) hlt hlt
            have rk : wr.cell? ⟨w.heap.size + 1, t, none⟩ = some (.int .u32 (iu32 (Sha.kt t))) := by rw [hI.kk.cell t]; exact arr_at _ hlt
            rw [← HY.out] at rw
            rw [← HK.out] at rk
            go_quiet ((go_at_call 53; exact Calls.quiet_of (right_any _ _ (by omega) (by omega) _)))
            clear rw rk
            go_wp2
            replace hI := hI.drewN nq
            replace hx := hx.drewN nq
            clear r0 r1 r2 r3 r4 r5 r6 r7
            generalize wr.drewN nq = w1 at hI hx ⊢
            have r0 : w1.cell? ⟨X, 0, none⟩ = some (.int .u32 (iu32 s.a)) := hx.cell 0
            have r1 : w1.cell? ⟨X, 1, none⟩ = some (.int .u32 (iu32 s.b)) := hx.cell 1
            have r2 : w1.cell? ⟨X, 2, none⟩ = some (.int .u32 (iu32 s.c)) := hx.cell 2
            have r3 : w1.cell? ⟨X, 3, none⟩ = some (.int .u32 (iu32 s.d)) := hx.cell 3
            have r4 : w1.cell? ⟨X, 4, none⟩ = some (.int .u32 (iu32 s.e)) := hx.cell 4
            have r5 : w1.cell? ⟨X, 5, none⟩ = some (.int .u32 (iu32 s.f)) := hx.cell 5
            have r6 : w1.cell? ⟨X, 6, none⟩ = some (.int .u32 (iu32 s.g)) := hx.cell 6
            have r7 : w1.cell? ⟨X, 7, none⟩ = some (.int .u32 (iu32 s.h)) := hx.cell 7
            go_quiet ((go_at_call 53; exact Calls.quiet_of (right_any _ _ (by omega) (by omega) _)))
            replace hI := hI.drewN nq
            replace hx := hx.drewN nq
            clear r0 r1 r2 r3 r4 r5 r6 r7
            generalize w1.drewN nq = w3 at hI hx ⊢
            have r0 : w3.cell? ⟨X, 0, none⟩ = some (.int .u32 (iu32 s.a)) := hx.cell 0
            have r1 : w3.cell? ⟨X, 1, none⟩ = some (.int .u32 (iu32 s.b)) := hx.cell 1
            have r2 : w3.cell? ⟨X, 2, none⟩ = some (.int .u32 (iu32 s.c)) := hx.cell 2
            have r3 : w3.cell? ⟨X, 3, none⟩ = some (.int .u32 (iu32 s.d)) := hx.cell 3
            have r4 : w3.cell? ⟨X, 4, none⟩ = some (.int .u32 (iu32 s.e)) := hx.cell 4
            have r5 : w3.cell? ⟨X, 5, none⟩ = some (.int .u32 (iu32 s.f)) := hx.cell 5
            have r6 : w3.cell? ⟨X, 6, none⟩ = some (.int .u32 (iu32 s.g)) := hx.cell 6
            have r7 : w3.cell? ⟨X, 7, none⟩ = some (.int .u32 (iu32 s.h)) := hx.cell 7
            go_wp2_with (show wpList _ _ _ ((⟨none, _, _, _, _, _⟩ : Oper) :: _) _ _; ((refine wpList_store_blk (o := ⟨none, _, _, _, _, _⟩) hx (by rfl) _ _ _ (by rfl) (by rfl) (st8 (Sha.round k y s)) (by first | rfl | refine Eq.trans (b := Value.agg #[.int .u32 ((iu32 _ + iu32 _) % 4294967296), _, _, _, .int .u32 ((iu32 _ + iu32 _) % 4294967296), _, _, _]) rfl ?_; simp only [u32_add_w]; rfl) size8r (st8_size _) (st8_size _) (st8_one _) ?_; intro w4 hx4 hu4; have hI4 := hI.upd hu4 (by omega); clear hI hx hu4 r0 r1 r2 r3 r4 r5 r6 r7)))
            go_roundw
            case rel => exact ⟨t + 1, by omega, by go_num, hI4, by rw [HS.out]; exact hx4⟩
            case measure => simp [intOf]; omega
          · obtain rfl : t = 64 := by omega
            obtain ⟨xs, hxs⟩ : ∃ s, s = Sha.rounds (Sha.word bs at_) hs 64 := ⟨_, rfl⟩
            rw [← hxs] at hx
            have HX := Lib.hid (show Sha.blk hs bs at_ = Sha.add hs xs by rw [hxs]; rfl)
            clear hxs ht hlt
            have hh0 := hI.hh.sub (sum8_zero hs xs)
            go_wp2
            go_loopw [18] (fun i wr => ∃ t : Nat, t ≤ 8 ∧ i = .int .i64 t ∧ Blk wr w.heap.size 62 (sum8 hs xs t) ∧ Blk wr (w.heap.size + 1 + 1) 62 zero8 ∧ Blk wr X 62 (st8 xs) ∧ Below w.heap.size w wr) (fun i _ => 8 - (intOf i).toNat)
            case atStart => exact ⟨0, by omega, rfl, hh0, hI.zz, hx, hI.bel⟩
            case round =>
              clear hI hx hh0
              obtain ⟨t, ht, rfl, hh, hz, hx, hbel⟩ := hrel
              by_cases hlt : t < 8
              · have c0 := (hh.cell t).trans (sum8_get hs xs t hlt)
                have c1 := (hx.cell t).trans (st8_get xs t hlt)
                have cf := hh.frozen t
                go_wp2
                refine wp_region_tail 9 (by kernel_rfl) (by kernel_rfl) ?_
                simp only [List.take_succ_cons, List.take_zero, List.drop_succ_cons, List.drop_zero]
                repeat (go_big_quiet_step (fail))
                refine wpQuiet_nil ?_
                go_wp2
                go_roundw
                case rel =>
                  refine ⟨t + 1, by omega, by go_num, ?_, hz.off (by omega) _, hx.off (by omega) _, (hbel.set_ (by omega) _).drew⟩
                  have := hh.set_ t (.int .u32 (iu32 (Sha.get hs t + Sha.get xs t)))
                  rw [sum8_set] at this
                  first | exact this | (rw [← u32_add_w] at this; exact this)
                case measure => simp [intOf]; omega
              · obtain rfl : t = 8 := by omega
                rw [sum8_all] at hh
                go_wp2_with (first
                  | (show wpList _ _ _ ((⟨some 197, _, _, _, _, _⟩ : Oper) :: _) _ _; (refine wpList_load_blk (o := ⟨some 197, _, _, _, _, _⟩) hh (by rfl) _ _ (by rfl) (by rfl) _ Try.underlying62 (by rfl) size8r (st8_size _) ?_))
                  | (show wpList _ _ _ ((⟨none, _, _, _, _, _⟩ : Oper) :: _) _ _; (refine wpList_store_blk (o := ⟨none, _, _, _, _, _⟩) hz (by rfl) _ _ _ (by rfl) (by rfl) (st8 (Sha.add hs xs)) (by rfl) size8r zero8_size (st8_size _) (st8_one _) ?_; intro w5 hz5 hu5; have hbel5 := hbel.upd hu5 (by omega); clear hbel hh hz hx hu5)))
                refine bodyPost_ret (results_cell_row (by rfl) _ _ _ _ _ _ _ (by rfl) hz5 Try.underlying62 (by rfl) size8r) rfl ⟨?_, hbel5⟩
                rw [HX.out]
end Go.Proofs.Ytfpcldnefpmgcaa
