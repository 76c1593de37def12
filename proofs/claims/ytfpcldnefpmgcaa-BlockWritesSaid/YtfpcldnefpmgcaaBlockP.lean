/- The program's mixing in of a block answers what the plain function says. Condition: there are 64 bytes. -/
import Derived.Test.YtfpcldnefpmgcaaBlock
namespace Go.Proofs.Ytfpcldnefpmgcaa
open Go.RowKit
set_option maxHeartbeats 1000000 in
set_option maxRecDepth 100000 in
theorem block_any (hs : Sha.St) (b off n c : Nat) (bs : List UInt8) (hn : n = bs.length) (h64 : 64 ≤ n)
   (w : World) (hbl : b < w.heap.size) (hb : ∀ j, j < n → w.cell? ⟨b, off + j, none⟩ = some (.int .u8 (iu8 (bs.getD j 0)))) :
    Calls Try.prog 45 #[.agg (st8 hs), .slice (some ⟨b, off, none⟩) n c, .agg karr] w fun e w' => e = .returned (.agg (st8 (Sha.blk hs bs 0))) ∧ Below w.heap.size w w' := by
  have a64 := alloc64
  have HN := Lib.hid hn; clear hn
  have HB := Lib.hid hb; clear hb
  go_enter Try.func45, Try.ntmps45
  go_wp2
  go_loopw [19] (fun i wr => ∃ t : Nat, t ≤ 16 ∧ i = .int .i64 t ∧ BInv 67 w wr hs (Sha.word bs 0) t) (fun i _ => 16 - (intOf i).toNat)
  case atStart => exact ⟨0, by omega, rfl, BInv.new _ w hs _⟩
  case round =>
    obtain ⟨t, ht, rfl, hI⟩ := hrel
    by_cases hlt : t < 16
    · obtain ⟨x0, h0⟩ : ∃ x, x = bs.getD (4 * t) 0 := ⟨_, rfl⟩
      obtain ⟨x1, h1⟩ : ∃ x, x = bs.getD (4 * t + 1) 0 := ⟨_, rfl⟩
      obtain ⟨x2, h2⟩ : ∃ x, x = bs.getD (4 * t + 2) 0 := ⟨_, rfl⟩
      obtain ⟨x3, h3⟩ : ∃ x, x = bs.getD (4 * t + 3) 0 := ⟨_, rfl⟩
      have c0 := (hI.bel.cell (p := ⟨b, off + 4 * t, none⟩) hbl).trans (HB.out (4 * t) (by omega))
      have c1 := (hI.bel.cell (p := ⟨b, off + (4 * t + 1), none⟩) hbl).trans (HB.out (4 * t + 1) (by omega))
      have c2 := (hI.bel.cell (p := ⟨b, off + (4 * t + 2), none⟩) hbl).trans (HB.out (4 * t + 2) (by omega))
      have c3 := (hI.bel.cell (p := ⟨b, off + (4 * t + 3), none⟩) hbl).trans (HB.out (4 * t + 3) (by omega))
      rw [← h0] at c0; rw [← h1] at c1; rw [← h2] at c2; rw [← h3] at c3
      have HW := Lib.hid (show Sha.wd (Sha.word bs 0) t = Sha.be x0 x1 x2 x3 by rw [Sha.wd_lo _ hlt, h0, h1, h2, h3]; simp [Sha.word])
      clear h0 h1 h2 h3
      have c4 := hI.get' (i := t) (by omega)
      have c5 := hI.ww.frozen t
      go_wp2
      refine wp_region_tail 35 (by kernel_rfl) (by kernel_rfl) ?_
      simp only [List.take_succ_cons, List.take_zero, List.drop_succ_cons, List.drop_zero]
      repeat (go_big_quiet_step (fail))
      refine wpQuiet_nil ?_
      go_wp2
      go_roundw
      case rel => exact ⟨t + 1, by omega, by go_num, hI.store _ HW.out⟩
      case measure => simp [intOf]; omega
    · obtain rfl : t = 16 := by omega
      clear ht hlt
      go_wp2
      go_loopw [9] (fun i wr => ∃ t : Nat, 16 ≤ t ∧ t ≤ 64 ∧ i = .int .i64 t ∧ BInv 67 w wr hs (Sha.word bs 0) t) (fun i _ => 64 - (intOf i).toNat)
      case atStart => exact ⟨16, by omega, by omega, rfl, hI⟩
      case round =>
        clear hI
        obtain ⟨t, ht1, ht2, rfl, hI⟩ := hrel
        by_cases hlt : t < 64
        · go_wp2
          obtain ⟨y2, h2⟩ : ∃ y, y = Sha.wd (Sha.word bs 0) (t - 2) := ⟨_, rfl⟩
          obtain ⟨y7, h7⟩ : ∃ y, y = Sha.wd (Sha.word bs 0) (t - 7) := ⟨_, rfl⟩
          obtain ⟨y15, h15⟩ : ∃ y, y = Sha.wd (Sha.word bs 0) (t - 15) := ⟨_, rfl⟩
          obtain ⟨y16, h16⟩ : ∃ y, y = Sha.wd (Sha.word bs 0) (t - 16) := ⟨_, rfl⟩
          have HW := Lib.hid (show Sha.wd (Sha.word bs 0) t = Sha.s1 y2 + y7 + Sha.s0 y15 + y16 by rw [h2, h7, h15, h16]; exact Sha.wd_hi _ ht1)
          have c15 := hI.get (i := t - 15) (by omega) (by omega)
          rw [← h15] at c15
          have H2 := Lib.hid h2; have H7 := Lib.hid h7; have H15 := Lib.hid h15; have H16 := Lib.hid h16
          clear h2 h7 h15 h16
          go_quiet ((go_at_call 54; exact quiet_left (turned_any _ _ (by omega) (by omega) _)))
          go_wp2
          have hI1 := hI.drewN nq
          clear hI c15
          generalize wr.drewN nq = w1 at hI1 ⊢
          have c2 := hI1.get (i := t - 2) (by omega) (by omega)
          rw [← H2.out] at c2
          go_quiet ((go_at_call 54; exact quiet_left (turned_any _ _ (by omega) (by omega) _)))
          go_wp2
          have hI2 := hI1.drewN nq
          clear hI1 c2
          generalize w1.drewN nq = w2 at hI2 ⊢
          have c7 := hI2.get (i := t - 7) (by omega) (by omega)
          have c16 := hI2.get (i := t - 16) (by omega) (by omega)
          rw [← H7.out] at c7
          rw [← H16.out] at c16
          have c0 := hI2.get' hlt
          have cf := hI2.ww.frozen t
          refine wp_region_tail 15 (by kernel_rfl) (by kernel_rfl) ?_
          simp only [List.take_succ_cons, List.take_zero, List.drop_succ_cons, List.drop_zero]
          repeat (go_big_quiet_step (fail))
          refine wpQuiet_nil ?_
          go_wp2
          go_roundw
          case rel => exact ⟨t + 1, by omega, by omega, by go_num, hI2.store _ (HW.out)⟩
          case measure => simp [intOf]; omega
        · obtain rfl : t = 64 := by omega
          clear ht1 ht2 hlt
          have hX := hI.ww.lt
          have hz8 := zero8_new 67 wr
          go_wp2_with (first
            | (refine wpList_load_blk (o := ⟨some 111, _, _, _, _, _⟩) hI.hh (by rfl) _ _ (by rfl) (by rfl) _ Try.underlying67 (by rfl) size8 (st8_size _) ?_)
            | (show wpList _ _ _ ((⟨none, _, _, _, _, _⟩ : Oper) :: _) _ _; (refine wpList_store_blk (o := ⟨none, _, _, _, _, _⟩) hz8 (by rfl) _ _ _ (by rfl) (by rfl) (st8 hs) (by rfl) size8 zero8_size (st8_size _) (st8_one _) ?_; intro w3 hx3 hu3; have hI3 := (hI.alloc _).upd hu3 (by omega); clear hI hu3 hz8)))
          generalize wr.heap.size = X at hX hx3 ⊢
          go_loopw [112] (fun i wr => ∃ t : Nat, t ≤ 64 ∧ i = .int .i64 t ∧ BInv 67 w wr hs (Sha.word bs 0) 64 ∧ Blk wr X 67 (st8 (Sha.rounds (Sha.word bs 0) hs t))) (fun i _ => 64 - (intOf i).toNat)
          case atStart => exact ⟨0, by omega, rfl, hI3, hx3⟩
          case round =>
            clear hI3 hx3
            obtain ⟨t, ht, rfl, hI, hx⟩ := hrel
            by_cases hlt : t < 64
            · obtain ⟨s, hs'⟩ : ∃ s, s = Sha.rounds (Sha.word bs 0) hs t := ⟨_, rfl⟩
              rw [← hs'] at hx
              obtain ⟨k, hk'⟩ : ∃ k, k = Sha.kt t := ⟨_, rfl⟩
              obtain ⟨y, hy'⟩ : ∃ k, k = Sha.wd (Sha.word bs 0) t := ⟨_, rfl⟩
              have HS := Lib.hid (show Sha.rounds (Sha.word bs 0) hs (t + 1) = Sha.round k y s by rw [hs', hk', hy']; rfl)
              have HK := Lib.hid hk'
              have HY := Lib.hid hy'
              clear hs' hk' hy'
              have r0 : wr.cell? ⟨X, 0, none⟩ = some (.int .u32 (iu32 s.a)) := hx.cell 0
              have r4 : wr.cell? ⟨X, 4, none⟩ = some (.int .u32 (iu32 s.e)) := hx.cell 4
              go_wp2
              go_quiet (fail)
              go_wp2
              replace hI := hI.drewN nq
              replace hx := hx.drewN nq
              clear r0 r4
              generalize wr.drewN nq = w1 at hI hx ⊢
              have r7 : w1.cell? ⟨X, 7, none⟩ = some (.int .u32 (iu32 s.h)) := hx.cell 7
              have r5 : w1.cell? ⟨X, 5, none⟩ = some (.int .u32 (iu32 s.f)) := hx.cell 5
              have r6 : w1.cell? ⟨X, 6, none⟩ = some (.int .u32 (iu32 s.g)) := hx.cell 6
              have rw := hI.get (i := t) hlt hlt
              have rk : w1.cell? ⟨w.heap.size + 1, t, none⟩ = some (.int .u32 (iu32 (Sha.kt t))) := by rw [hI.kk.cell t]; exact arr_at _ hlt
              rw [← HY.out] at rw
              rw [← HK.out] at rk
              go_quiet ((go_at_call 54; exact quiet_left (turned_any _ _ (by omega) (by omega) _)))
              go_wp2
              replace hI := hI.drewN nq
              replace hx := hx.drewN nq
              clear r7 r5 r6 rw rk
              generalize w1.drewN nq = w2 at hI hx ⊢
              have r1 : w2.cell? ⟨X, 1, none⟩ = some (.int .u32 (iu32 s.b)) := hx.cell 1
              have r2 : w2.cell? ⟨X, 2, none⟩ = some (.int .u32 (iu32 s.c)) := hx.cell 2
              go_quiet ((go_at_call 54; exact quiet_left (turned_any _ _ (by omega) (by omega) _)))
              replace hI := hI.drewN nq
              replace hx := hx.drewN nq
              clear r1 r2
              generalize w2.drewN nq = w3 at hI hx ⊢
              have r1 : w3.cell? ⟨X, 1, none⟩ = some (.int .u32 (iu32 s.b)) := hx.cell 1
              have r2 : w3.cell? ⟨X, 2, none⟩ = some (.int .u32 (iu32 s.c)) := hx.cell 2
              have r3 : w3.cell? ⟨X, 3, none⟩ = some (.int .u32 (iu32 s.d)) := hx.cell 3
              have r5 : w3.cell? ⟨X, 5, none⟩ = some (.int .u32 (iu32 s.f)) := hx.cell 5
              have r6 : w3.cell? ⟨X, 6, none⟩ = some (.int .u32 (iu32 s.g)) := hx.cell 6
              go_wp2_with (show wpList _ _ _ ((⟨none, _, _, _, _, _⟩ : Oper) :: _) _ _; ((refine wpList_store_blk (o := ⟨none, _, _, _, _, _⟩) hx (by rfl) _ _ _ (by rfl) (by rfl) (st8 (Sha.round k y s)) (by first | rfl | refine Eq.trans (b := Value.agg #[.int .u32 ((iu32 _ + iu32 _) % 4294967296), _, _, _, .int .u32 ((iu32 _ + iu32 _) % 4294967296), _, _, _]) rfl ?_; simp only [u32_add_w]; rfl) size8 (st8_size _) (st8_size _) (st8_one _) ?_; intro w4 hx4 hu4; have hI4 := hI.upd hu4 (by omega); clear hI hx hu4 r1 r2 r3 r5 r6)))
              go_roundw
              case rel => exact ⟨t + 1, by omega, by go_num, hI4, by rw [HS.out]; exact hx4⟩
              case measure => simp [intOf]; omega
            · obtain rfl : t = 64 := by omega
              obtain ⟨xs, hxs⟩ : ∃ s, s = Sha.rounds (Sha.word bs 0) hs 64 := ⟨_, rfl⟩
              rw [← hxs] at hx
              have HX := Lib.hid (show Sha.blk hs bs 0 = Sha.add hs xs by rw [hxs]; rfl)
              clear hxs ht hlt
              have hh0 := hI.hh.sub (sum8_zero hs xs)
              go_wp2
              go_loopw [192] (fun i wr => ∃ t : Nat, t ≤ 8 ∧ i = .int .i64 t ∧ Blk wr w.heap.size 67 (sum8 hs xs t) ∧ Blk wr (w.heap.size + 1 + 1) 67 zero8 ∧ Blk wr X 67 (st8 xs) ∧ Below w.heap.size w wr) (fun i _ => 8 - (intOf i).toNat)
              case atStart => exact ⟨0, by omega, rfl, hh0, hI.zz, hx, hI.bel⟩
              case round =>
                clear hI hx hh0
                obtain ⟨t, ht, rfl, hh, hz, hx, hbel⟩ := hrel
                by_cases hlt : t < 8
                · have c0 := (hh.cell t).trans (sum8_get hs xs t hlt)
                  have c1 := (hx.cell t).trans (st8_get xs t hlt)
                  have cf := hh.frozen t
                  go_wp2
                  refine wp_region_tail 8 (by kernel_rfl) (by kernel_rfl) ?_
                  simp only [List.take_succ_cons, List.take_zero, List.drop_succ_cons, List.drop_zero]
                  repeat (go_big_quiet_step (fail))
                  refine wpQuiet_nil ?_
                  go_wp2
                  go_roundw
                  case rel =>
                    refine ⟨t + 1, by omega, by go_num, ?_, hz.off (by omega) _, hx.off (by omega) _, (hbel.set_ (by omega) _).drew⟩
                    have := hh.set_ t (.int .u32 (iu32 (Sha.get hs t + Sha.get xs t)))
                    rw [sum8_set] at this
                    first | exact this | (rw [← u32_add_w] at this; exact this)
                  case measure => simp [intOf]; omega
                · obtain rfl : t = 8 := by omega
                  rw [sum8_all] at hh
                  go_wp2_with (first
                    | (show wpList _ _ _ ((⟨some 204, _, _, _, _, _⟩ : Oper) :: _) _ _; (refine wpList_load_blk (o := ⟨some 204, _, _, _, _, _⟩) hh (by rfl) _ _ (by rfl) (by rfl) _ Try.underlying67 (by rfl) size8 (st8_size _) ?_))
                    | (show wpList _ _ _ ((⟨none, _, _, _, _, _⟩ : Oper) :: _) _ _; (refine wpList_store_blk (o := ⟨none, _, _, _, _, _⟩) hz (by rfl) _ _ _ (by rfl) (by rfl) (st8 (Sha.add hs xs)) (by rfl) size8 zero8_size (st8_size _) (st8_one _) ?_; intro w5 hz5 hu5; have hbel5 := hbel.upd hu5 (by omega); clear hbel hh hz hx hu5)))
                  refine bodyPost_ret (results_cell_row (by rfl) _ _ _ _ _ _ _ (by rfl) hz5 Try.underlying67 (by rfl) size8) rfl ⟨?_, hbel5⟩
                  rw [HX.out]
end Go.Proofs.Ytfpcldnefpmgcaa
