/- The program's seal of bytes answers what the plain function says. Condition: the bytes can be read and their room is at most 2^47 - 4096. -/
import Derived.Test.YtgkljncigbiffaaDoorMTableTurned3
import Derived.Stop.BytesEq
import Derived.Deep.MidRow
import Derived.MapKept
import Derived.WideKeyRuns
import GoSem.Instr.MapEntry
namespace Go.Proofs.YtgkljncigbiffaaDoor
open Go.RowKit
set_option maxHeartbeats 400000 in
set_option maxRecDepth 100000 in
theorem constants_any (w : World) : Calls Tryd.prog 145 #[] w fun e w' => e = .returned (.agg karr) ∧ Below w.heap.size w w' := by
  have a64 := alloc64
  have hz := Blk.new w 222 zero64
  go_enter Tryd.func145, Tryd.ntmps145
  go_wp2_with (first | (show wpList _ _ _ ((⟨some 1, .build _ _, _, _, _, _⟩ : Oper) :: _) _ _; (refine wpList_run (o := ⟨some 1, .build _ _, _, _, _, _⟩) (.agg karr) (by rfl) (by kernel_rfl) ?_)) | (show wpList _ _ _ ((⟨none, _, _, _, _, _⟩ : Oper) :: _) _ _; ((refine wpList_store_blk (o := ⟨none, _, _, _, _, _⟩) hz (by rfl) _ _ _ (by rfl) (by rfl) karr (by kernel_rfl) size64 zero64_size karr_size karr_one ?_; intro w1 h1 hu1))))
  refine bodyPost_ret (results_cell_row (by rfl) _ _ _ _ _ _ _ (by rfl) h1 Tryd.underlying222 (by rfl) size64) rfl ⟨rfl, ((Below.refl _ _).alloc (Nat.le_refl _) _).upd hu1 (Nat.le_refl _)⟩
/-- What holds ahead of each block of the padded rest. -/
def PadRel (w : World) (H K : Nat) (l : List UInt8) (v : Value) (wr : World) : Prop :=
  ∃ (j : Nat) (M : List UInt8) (A' : Option Addr) (c' : Nat), 64 * j ≤ (Sha.pad l).length ∧ M = (Sha.pad l).drop (64 * j) ∧ M.length ≤ c' ∧ c' ≤ maxLen ∧ v = .slice A' M.length c' ∧ Bytes wr A' M ∧ (∀ ad, A' = some ad → K < ad.block) ∧ SInv 221 w wr H K (Sha.blks (Sha.pad l) Sha.init j)
set_option maxHeartbeats 1000000 in
set_option maxRecDepth 100000 in
theorem sum_any (A : Option Addr) (c : Nat) (l : List UInt8) (hc : l.length ≤ c) (hc2 : l.length ≤ 140737488351232 ∧ c ≤ 9223372036854775807) (w : World) (hb : Bytes w A l) :
    Calls Tryd.prog 124 #[.slice A l.length c] w fun e w' => e = .returned (.agg ((Sha.sum l).map u8v).toArray) ∧ Below w.heap.size w w' := by
  have a64 := alloc64
  have a16 := alloc16
  have hz8 : Blk ((w.alloc (.cells zero16 158)).alloc (.cells #[.int .u32 0, .int .u32 0, .int .u32 0, .int .u32 0, .int .u32 0, .int .u32 0, .int .u32 0, .int .u32 0] 221)) (w.heap.size + 1) 221 zero8 := Blk.new' _ _ _ (by simp)
  have hz16 : Blk ((w.alloc (.cells zero16 158)).alloc (.cells #[.int .u32 0, .int .u32 0, .int .u32 0, .int .u32 0, .int .u32 0, .int .u32 0, .int .u32 0, .int .u32 0] 221)) w.heap.size 158 zero16 := (Blk.new _ _ _).alloc _
  have hbz : Below w.heap.size w ((w.alloc (.cells zero16 158)).alloc (.cells #[.int .u32 0, .int .u32 0, .int .u32 0, .int .u32 0, .int .u32 0, .int .u32 0, .int .u32 0, .int .u32 0] 221)) := ((Below.refl _ _).alloc (Nat.le_refl _) _).alloc (by simp) _
  go_enter Tryd.func124, Tryd.ntmps124
  go_wp2_with (first
    | (show wpList _ _ _ ((⟨some 11, .build _ _, _, _, _, _⟩ : Oper) :: _) _ _; refine wpList_run (o := ⟨some 11, .build _ _, _, _, _, _⟩) (.agg (st8 Sha.init)) (by rfl) (by kernel_rfl) ?_)
    | (show wpList _ _ _ ((⟨none, .store _ (.tmp 3) (.tmp 11), _, _, _, _⟩ : Oper) :: _) _ _; go_must (refine wpList_store_blk (o := ⟨none, _, _, _, _, _⟩) hz8 (by rfl) _ _ _ (by rfl) (by rfl) (st8 Sha.init) (by rfl) size8 zero8_size (st8_size _) (st8_one _) ?_; intro w1 h1 hu1; replace hz16 := hz16.upd hu1 (by omega); replace hbz := hbz.upd hu1 (by omega); clear hu1 hz8)))
  refine (constants_any _).mono ?_
  rintro e w2 ⟨rfl, hb2⟩
  have hlt2 := (h1.below hb2 h1.lt).lt
  have hk64 := Blk.new w2 222 zero64
  replace h1 := (h1.below hb2 h1.lt).alloc (.cells zero64 222)
  replace hz16 := (hz16.below hb2 hz16.lt).alloc (.cells zero64 222)
  replace hbz := (hbz.trans (hb2.mono hbz.size)).alloc (by omega) (.cells zero64 222)
  go_wp2_with (show wpList _ _ _ ((⟨none, .store _ (.tmp 4) (.tmp 12), _, _, _, _⟩ : Oper) :: _) _ _; go_must (refine wpList_store_blk (o := ⟨none, _, _, _, _, _⟩) hk64 (by rfl) _ _ _ (by rfl) (by rfl) karr (by rfl) size64 zero64_size karr_size karr_one ?_; intro w3 h3 hu3; have hI : SInv 221 w w3 (w.heap.size + 1) w2.heap.size Sha.init := ⟨h1.upd hu3 (by omega), h3, hz16.upd hu3 (by omega), by omega, hlt2, hbz.upd hu3 (by omega)⟩; clear hu3 h1 hz16 hbz hk64 h3))
  clear hb2 hlt2
  generalize w2.heap.size = K at hI ⊢
  generalize hH : w.heap.size + 1 = H at hI ⊢
  clear hH
  go_loopw [0] (fun v wr => ∃ (t : Nat) (l' : List UInt8) (A' : Option Addr) (c' : Nat), 64 * t ≤ l.length ∧ l' = l.drop (64 * t) ∧ l'.length ≤ c' ∧ c' ≤ c ∧ v = .slice A' l'.length c' ∧ Bytes w A' l' ∧ SInv 221 w wr H K (Sha.blks l Sha.init t)) (fun v _ => lenOf v)
  case atStart => exact ⟨0, l, A, c, by omega, by simp, hc, Nat.le_refl _, rfl, hb, hI⟩
  case round =>
    clear hI
    obtain ⟨t, l', A', c', ht, hl', hc', hcc, rfl, hb', hI⟩ := hrel
    have HL := Lib.hid hl'
    have hlen : l'.length + 64 * t = l.length := by rw [hl']; simp; omega
    have HN := Lib.hid hlen
    clear hl' hlen
    by_cases h64 : 64 ≤ l'.length
    · obtain ⟨b, off, rfl, hbl, hcell⟩ := hb'.at_ (by omega)
      have HB := Lib.hid hb'; clear hb'
      have HC := Lib.hid hcell; clear hcell
      go_wp2
      have hst : ∀ w', Below wr.heap.size wr w' → Calls Tryd.prog 146 #[.agg (st8 (Sha.blks l Sha.init t)), .slice (some ⟨b, off, none⟩) l'.length c', .agg karr] w' fun e w'' => e = .returned (.agg (st8 (Sha.blk (Sha.blks l Sha.init t) l' 0))) ∧ Below wr.heap.size wr w'' := by
        intro w' hw'
        have hI' := hI.below hw'
        refine (block_any _ b off _ c' l' rfl h64 w' (by have := hI'.bel.size; omega) (fun j hj => ?_)).mono fun e w'' h => ⟨h.1, hw'.trans (h.2.mono hw'.size)⟩
        rw [hI'.bel.cell (p := ⟨b, off + j, none⟩) hbl]; exact HC.out j hj
      refine wp_region_mix (Below wr.heap.size wr) [1, 4, 5] [0, 2, 3] 6 [7] (by kernel_rfl) (by kernel_rfl) (fun c a a' w h q => ⟨h ▸ q.1, q.2⟩) (Below.refl _ _).drew ?_
      dsimp only [List.filterMap, List.getElem?_cons_zero, List.getElem?_cons_succ]
      repeat (go_big_quiet_step (fail))
      refine wpQuiet_nil ?_
      refine wpQuiet_load_blk (fun w' hw' => (hI.below hw').hh) (by rfl) _ _ (by rfl) (by rfl) _ Tryd.underlying221 (by rfl) size8 (st8_size _) ?_
      simp only [Act.put, List.setIfInBounds_toArray, List.set_cons_zero, List.set_cons_succ]
      refine wpQuiet_load_blk (fun w' hw' => (hI.below hw').kk) (by rfl) _ _ (by rfl) (by rfl) _ Tryd.underlying222 (by rfl) size64 karr_size ?_
      simp only [Act.put, List.setIfInBounds_toArray, List.set_cons_zero, List.set_cons_succ]
      refine wpQuiet_call Tryd.call146 (by rfl) _ _ (by rfl) _ (by rfl) _ hst ?_
      simp only [Act.put, List.setIfInBounds_toArray, List.set_cons_zero, List.set_cons_succ]
      refine wpQuiet_nil ?_
      intro w5 hw5
      replace hI := hI.below hw5
      clear hw5 hst
      go_wp2_with (show wpList _ _ _ ((⟨none, .store _ (.tmp 3) (.tmp 21), _, _, _, _⟩ : Oper) :: _) _ _; go_must (refine wpList_store_blk (o := ⟨none, _, _, _, _, _⟩) hI.hh (by rfl) _ _ _ (by rfl) (by rfl) (st8 (Sha.blk (Sha.blks l Sha.init t) l' 0)) (by rfl) size8 (st8_size _) (st8_size _) (st8_one _) ?_; intro w6 h6 hu6; have hI6 := hI.stored h6 hu6; clear hu6 hI h6))
      go_roundw
      case rel =>
        have hlen := HN.out
        refine ⟨t + 1, l'.drop 64, _, c' - 64, by omega, ?_, by simp; omega, by omega, ?_, HB.out.drop (k := 64) (cap := c') (by omega), ?_⟩
        · rw [HL.out, List.drop_drop]; congr 1
        · rw [List.length_drop]; rfl
        · have : Sha.blk (Sha.blks l Sha.init t) l' 0 = Sha.blks l Sha.init (t + 1) := by rw [HL.out, Sha.blk_drop]; rfl
          rw [← this]; exact hI6
      case measure => simp [lenOf]; omega
    · have hz : Sha.zeros l'.length = Sha.zeros l.length := by rw [← HN.out, Sha.zeros_add]
      have HZ := Lib.hid hz; clear hz
      have hb7 := Bytes.below hb' hI.bel
      clear hb'
      have hKlt := hI.kk.lt
      go_wp2_with (first
        | (show wpList _ _ _ ((⟨some 25, _, _, _, _, _⟩ : Oper) :: _) _ _; go_must (refine wpList_append_bytes (o := ⟨some 25, _, _, _, _, _⟩) (by rfl) _ _ _ (by rfl) (K + 1) _ Tryd.underlying22 u8info (.slice none 0 0) [] [] (by rfl) (OwnsC.nil _ _ _ _) A' c' l' (by rfl) hb7 (by simp; omega) hKlt ?_; intro v1 w7 sp1 ho1 hg1 ha1 hn1; replace hI := hI.grown hg1 (fun k hk => by simp [Value.ownBlock] at hk); clear hb7 hn1 hg1; replace ho1 := ho1.alloc (.cells #[.int .u8 128] 5); have hlit : Bytes (w7.alloc (.cells #[.int .u8 128] 5)) (some ⟨w7.heap.size, 0, none⟩) [128] := bytes_lit w7 _ [128]))
        | (show wpList _ _ _ ((⟨some 27, _, _, _, _, _⟩ : Oper) :: _) _ _; go_must (refine wpList_append_bytes (o := ⟨some 27, _, _, _, _, _⟩) (by rfl) _ _ _ (by rfl) (K + 1) _ Tryd.underlying22 u8info v1 ([] ++ l') sp1 (by rfl) ho1 (some ⟨w7.heap.size, 0, none⟩) 1 [128] (by rfl) hlit (by simp; omega) (by have := hI.kk.lt; simp; omega) ?_; intro v2 w8 sp2 ho2 hg2 _ _; replace hI := (hI.alloc (.cells #[.int .u8 128] 5)).grown hg2 (fun k hk => (OwnsC.lt ho1 k hk).1); clear hlit ho1 hg2 ha1)))
      have ho3 : OwnB 5 w8 (K + 1) v2 (l' ++ 128 :: List.replicate 0 0) sp2 := by simpa using ho2
      clear ho2
      go_loopw [6] (fun v wr => ∃ (i : Nat) (L sp : List UInt8), i ≤ Sha.zeros l.length ∧ L = l' ++ 128 :: List.replicate i 0 ∧ OwnB 5 wr (K + 1) v L sp ∧ SInv 221 w wr H K (Sha.blks l Sha.init t)) (fun v _ => 300 - lenOf v)
      case atStart => exact ⟨0, _, _, by omega, rfl, ho3, hI⟩
      case round =>
        clear hI ho3
        obtain ⟨i, L, sp, hi, hL, ho, hI⟩ := hrel
        obtain ⟨A2, c2, rfl, hc1, hc3, hr1, _⟩ := OwnsC.reads ho
        have hLlen : L.length = l'.length + 1 + i := by rw [hL]; simp; omega
        have HL2 := Lib.hid hL
        have HO := Lib.hid ho
        have hzl := Sha.zeros_lt l.length
        have hz := HZ.out
        have hl64 : l'.length < 64 := by omega
        by_cases hlt : i < Sha.zeros l.length
        · have ht1 : (((L.length : Nat) : Int) % 64 != 56) = true := by rw [bne_iff_ne]; have := Sha.zeros_not hl64 (by rw [hz]; exact hlt); rw [← hLlen] at this; omega
          have hKlt := hI.kk.lt
          have hLle : L.length ≤ 200 := by omega
          have HLl := Lib.hid hLlen
          clear hL hLlen hz hr1
          replace ho := ho.alloc (.cells #[.int .u8 0] 5)
          have hlit : Bytes (wr.alloc (.cells #[.int .u8 0] 5)) (some ⟨wr.heap.size, 0, none⟩) [0] := bytes_lit wr _ [0]
          go_wp2_with (show wpList _ _ _ ((⟨some 34, _, _, _, _, _⟩ : Oper) :: _) _ _; refine wpList_append_bytes (o := ⟨some 34, _, _, _, _, _⟩) (by rfl) _ _ _ (by rfl) (K + 1) _ Tryd.underlying22 u8info (.slice A2 L.length c2) L sp (by rfl) ho (some ⟨wr.heap.size, 0, none⟩) 1 [0] (by rfl) hlit (by simp; omega) (by simp; omega) ?_; intro v3 w9 sp3 ho3 hg3 _ _; have hI3 := (hI.alloc (.cells #[.int .u8 0] 5)).grown hg3 (fun k hk => (OwnsC.lt ho k hk).1); clear hlit ho hg3 hI)
          obtain ⟨A3, c3, rfl, _⟩ := OwnsC.reads ho3
          go_roundw
          case rel => exact ⟨i + 1, _, _, by omega, by rw [HL2.out]; simp [List.replicate_succ'], ho3, hI3⟩
          case measure => simp [lenOf]; omega
        · obtain rfl : i = Sha.zeros l.length := by omega
          have ht1 : (((L.length : Nat) : Int) % 64 != 56) = false := by
            have := Sha.zeros_is hl64
            rw [hz, ← hLlen] at this
            have h2 : ((L.length : Nat) : Int) % 64 = 56 := by omega
            rw [h2]; rfl
          have hLle : L.length ≤ 200 := by omega
          clear hL hLlen hz hr1
          go_wp2
          go_loopw [6, 7] (fun v i wr => ∃ (k : Nat) (sp : List UInt8) (E : List UInt8), k ≤ 8 ∧ i = .int .i64 (56 - 8 * (k : Int)) ∧ E = (Sha.eight (l.length * 8)).take k ∧ OwnB 5 wr (K + 1) v (L ++ E) sp ∧ SInv 221 w wr H K (Sha.blks l Sha.init t)) (fun _ i _ => (intOf i + 8).toNat)
          case atStart => exact ⟨0, _, [], by omega, by simp, rfl, by simpa using HO.out, hI⟩
          case round =>
            clear hI ho
            obtain ⟨k, sp, E, hk, rfl, hE, ho, hI⟩ := hrel
            by_cases hk8 : k < 8
            · have HE := Lib.hid hE
              obtain ⟨A3, c3, rfl, _, _, hr3, _⟩ := OwnsC.reads ho
              obtain ⟨x, hx⟩ : ∃ x, x = UInt8.ofNat (l.length * 8 / 2 ^ (56 - 8 * k) % 256) := ⟨_, rfl⟩
              have HX := Lib.hid hx
              have eb : ((l.length : Int) * 8 / 2 ^ (56 - 8 * k) % 256) = iu8 x := by rw [hx]; exact (iu8_ofNat_mod _).symm
              have hEl : (L ++ E).length = L.length + k := by rw [hE]; simp [Sha.eight_length]; omega
              obtain ⟨M, hM⟩ : ∃ M, M = L ++ E := ⟨_, rfl⟩
              rw [← hM] at ho hEl ⊢
              have HM := Lib.hid hM
              have hMle : M.length ≤ 208 := by omega
              have HEl := Lib.hid hEl
              have hKlt2 := hI.kk.lt
              have hlit : Bytes (wr.alloc (.cells #[.int .u8 (iu8 x)] 5)) (some ⟨wr.heap.size, 0, none⟩) [x] := bytes_lit wr _ [x]
              replace ho := OwnB.alloc ho (.cells #[.int .u8 (iu8 x)] 5)
              clear hE hx hEl hM hr3
              go_wp2_with (show wpList _ _ _ ((⟨some 47, _, _, _, _, _⟩ : Oper) :: _) _ _; refine wpList_append_bytes (o := ⟨some 47, _, _, _, _, _⟩) (by rfl) _ _ _ (by rfl) (K + 1) _ Tryd.underlying22 u8info (.slice A3 M.length c3) M sp (by rfl) ho (some ⟨wr.heap.size, 0, none⟩) 1 [x] (by rfl) hlit (by simp; omega) (by simp; omega) ?_; intro v3 w9 sp3 ho3 hg3 _ _; have hI3 := (hI.alloc (.cells #[.int .u8 (iu8 x)] 5)).grown hg3 (fun k hk => (OwnsC.lt ho k hk).1); clear hlit ho hg3 hI)
              go_roundw
              case rel => exact ⟨k + 1, sp3, E ++ [x], by omega, by go_num, by rw [HE.out, HX.out, Sha.eight_take _ _ hk8], by rw [HM.out, List.append_assoc] at ho3; exact ho3, hI3⟩
              case measure => simp [intOf]; omega
            · obtain rfl : k = 8 := by omega
              obtain ⟨A4, c4, rfl, hc4, hc5, hr4, _⟩ := OwnsC.reads ho
              have hge : ∀ ad, A4 = some ad → K < ad.block := fun ad hd => by
                have := (OwnsC.lt ho ad.block (by rw [hd]; rfl)).1
                omega
              have hM0 : L ++ E = (Sha.pad l).drop (64 * t) := by
                rw [hE, List.take_of_length_le (by rw [Sha.eight_length]; omega), HL2.out, HL.out, Sha.pad, Sha.tail, List.drop_append_of_le_length ht]
                simp
              have hS0 : Sha.blks l Sha.init t = Sha.blks (Sha.pad l) Sha.init t := (Sha.blks_append l _ _ t ht).symm
              rw [hS0] at hI
              have hr5 : Bytes wr A4 (L ++ E) := hr4
              obtain ⟨M, hM⟩ : ∃ M, M = L ++ E := ⟨_, rfl⟩
              rw [hM0] at hM
              rw [hM0, ← hM] at hr5
              rw [hM0, ← hM] at hc4 ⊢
              have HM := Lib.hid hM
              clear hr4 ho hE hM hM0 hS0
              go_wp2
              go_loopw [6] (fun v wr => PadRel w H K l v wr) (fun v _ => lenOf v)
              case atStart => exact ⟨t, M, A4, c4, by rw [Sha.pad_length]; omega, HM.out, hc4, hc5, rfl, hr5, hge, hI⟩
              case round =>
                clear hI hr5 hge
                obtain ⟨j, M, A5, c5, hj, hM, hc6, hc7, rfl, hb5, hge, hI⟩ := hrel
                have hMl : M.length + 64 * j = (Sha.pad l).length := by rw [hM, List.length_drop]; omega
                have hp := Sha.pad_mod l
                have hpl : (Sha.pad l).length ≤ 140737488351400 := by rw [Sha.pad_length]; omega
                by_cases hpos : 0 < M.length
                · have h64' : 64 ≤ M.length := by omega
                  obtain ⟨b, off, rfl, hbl, hcell⟩ := hb5.at_ hpos
                  have HM2 := Lib.hid hM
                  have HMl := Lib.hid hMl
                  have HB := Lib.hid hb5
                  have HG := Lib.hid hge
                  have HC := Lib.hid hcell
                  have hMle : M.length ≤ 140737488351400 := by omega
                  clear hM hMl hb5 hge hcell hp
                  go_wp2_with (first
                    | (show wpList _ _ _ ((⟨some 53, _, _, _, _, _⟩ : Oper) :: _) _ _; refine wpList_load_blk (o := ⟨some 53, _, _, _, _, _⟩) hI.hh (by rfl) _ _ (by rfl) (by rfl) _ Tryd.underlying221 (by rfl) size8 (st8_size _) ?_)
                    | (show wpList _ _ _ ((⟨some 55, _, _, _, _, _⟩ : Oper) :: _) _ _; refine wpList_load_blk (o := ⟨some 55, _, _, _, _, _⟩) hI.kk (by rfl) _ _ (by rfl) (by rfl) _ Tryd.underlying222 (by rfl) size64 karr_size ?_)
                    | fail)
                  refine (block_any _ b off _ c5 M rfl h64' _ hbl HC.out).mono ?_
                  rintro e w9 ⟨rfl, hb9⟩
                  replace hI := hI.below hb9
                  have hb6 := Bytes.below HB.out hb9
                  have HB6 := Lib.hid hb6
                  clear hb6
                  go_wp2_with (show wpList _ _ _ ((⟨none, .store _ (.tmp 3) (.tmp 56), _, _, _, _⟩ : Oper) :: _) _ _; refine wpList_store_blk (o := ⟨none, _, _, _, _, _⟩) hI.hh (by rfl) _ _ _ (by rfl) (by rfl) (st8 (Sha.blk (Sha.blks (Sha.pad l) Sha.init j) M 0)) (by rfl) size8 (st8_size _) (st8_size _) (st8_one _) ?_; intro w6 h6 hu6; have hI6 := hI.stored h6 hu6; have hb7 := HB6.out.upd hu6 (fun ad hd => by have h1 := HG.out ad hd; have h2 := hI.h2; omega); have HB7 := Lib.hid hb7; clear hb7 hu6 hI h6)
                  all_goals
                    go_roundw
                    case rel =>
                      have hlen := HMl.out
                      unfold PadRel
                      refine ⟨j + 1, M.drop 64, _, c5 - 64, by omega, ?_, by simp; omega, by omega, ?_, HB7.out.drop (k := 64) (cap := c5) (by omega), block_cut HG.out, ?_⟩
                      · rw [HM2.out, List.drop_drop]; congr 1
                      · rw [List.length_drop]; simp [Addr.add_lit, *]
                      · have : Sha.blk (Sha.blks (Sha.pad l) Sha.init j) M 0 = Sha.blks (Sha.pad l) Sha.init (j + 1) := by rw [HM2.out, Sha.blk_drop]; rfl
                        rw [← this]; exact hI6
                    case measure => simp [lenOf]; omega
                · have hM0 : M.length = 0 := by omega
                  have HS := Lib.hid (show j = (Sha.pad l).length / 64 by omega)
                  clear hM hMl hp hpl hb5 hge
                  obtain ⟨x, hx⟩ : ∃ x, x = Sha.blks (Sha.pad l) Sha.init j := ⟨_, rfl⟩
                  rw [← hx] at hI
                  have HX := Lib.hid (show Sha.sum l = Sha.out x by rw [hx, HS.out]; rfl)
                  clear hx
                  have hD : Blk (wr.alloc (.cells zero16 158)) wr.heap.size 158 (darr x 0) := (Blk.new _ _ _).sub (darr_zero x)
                  have hKD := hI.kk.lt
                  have hI2 := hI.alloc (.cells zero16 158)
                  go_wp2
                  generalize wr.heap.size = D at hD hKD ⊢
                  go_loopw [59] (fun v wr => ∃ i : Nat, i ≤ 4 ∧ v = .int .i64 i ∧ SInv 221 w wr H K x ∧ Blk wr D 158 (darr x i)) (fun v _ => 4 - (intOf v).toNat)
                  case atStart => exact ⟨0, by omega, rfl, hI2, hD⟩
                  case round =>
                    clear hI hI2 hD
                    obtain ⟨i, hi, rfl, hI, hD⟩ := hrel
                    by_cases hi4 : i < 4
                    · obtain ⟨y, hy⟩ : ∃ y, y = Sha.get x i := ⟨_, rfl⟩
                      have cy := (hI.hh.cell i).trans (st8_get x i (by omega))
                      rw [← hy] at cy
                      have HY := Lib.hid hy; clear hy
                      have b0 : iu32 y / 16777216 % 256 = iu8 (Sha.byte y 0) := byte_eq y 0
                      have b1 : iu32 y / 65536 % 256 = iu8 (Sha.byte y 1) := byte_eq y 1
                      have b2 : iu32 y / 256 % 256 = iu8 (Sha.byte y 2) := byte_eq y 2
                      have b3 : iu32 y % 256 = iu8 (Sha.byte y 3) := by have := byte_eq y 3; simpa using this
                      have d0 := (hD.cell (4 * i)).trans (arr_at _ (show 4 * i < 16 by omega))
                      have d1 := (hD.cell (4 * i + 1)).trans (arr_at _ (show 4 * i + 1 < 16 by omega))
                      have d2 := (hD.cell (4 * i + 2)).trans (arr_at _ (show 4 * i + 2 < 16 by omega))
                      have d3 := (hD.cell (4 * i + 3)).trans (arr_at _ (show 4 * i + 3 < 16 by omega))
                      have f0 := hD.frozen (4 * i)
                      have f1 := hD.frozen (4 * i + 1)
                      have f2 := hD.frozen (4 * i + 2)
                      have f3 := hD.frozen (4 * i + 3)
                      go_wp2
                      go_roundw
                      case rel =>
                        refine ⟨i + 1, by omega, by go_num, ?_, ?_⟩
                        · exact (((hI.off hKD _).off hKD _).off hKD _).off hKD _
                        · have h1 := (((hD.set_ (4 * i) (.int .u8 (iu8 (Sha.byte y 0)))).set_ (4 * i + 1) (.int .u8 (iu8 (Sha.byte y 1)))).set_ (4 * i + 2) (.int .u8 (iu8 (Sha.byte y 2)))).set_ (4 * i + 3) (.int .u8 (iu8 (Sha.byte y 3)))
                          rw [darr_set x i y HY.out] at h1
                          exact h1
                      case measure => simp [intOf]; omega
                    · obtain rfl : i = 4 := by omega
                      rw [darr_all] at hD
                      go_wp2_with (first
                        | (show wpList _ _ _ ((⟨some 91, _, _, _, _, _⟩ : Oper) :: _) _ _; refine wpList_load_blk (o := ⟨some 91, _, _, _, _, _⟩) hD (by rfl) _ _ (by rfl) (by rfl) _ Tryd.underlying158 (by rfl) size16 (by simp [Sha.out]) ?_)
                        | (show wpList _ _ _ ((⟨none, .store _ (.tmp 2) (.tmp 91), _, _, _, _⟩ : Oper) :: _) _ _; refine wpList_store_blk (o := ⟨none, _, _, _, _, _⟩) hI.rr (by rfl) _ _ _ (by rfl) (by rfl) ((Sha.out x).map u8v).toArray (by rfl) size16 (arr_size _ _) (by simp [Sha.out]) (u8_all _) ?_; intro w6 h6 hu6; have hbel := hI.bel.upd hu6 (Nat.le_refl _); clear hu6 hI hD))
                      refine bodyPost_ret (results_cell_row (by rfl) _ _ _ _ _ _ _ (by rfl) h6 Tryd.underlying158 (by rfl) (size16.trans (by simp [Sha.out]))) rfl ⟨?_, hbel⟩
                      rw [HX.out]
end Go.Proofs.YtgkljncigbiffaaDoor

/- What the functions of the layer of seals answer: the seal compared, bytes sealed, bytes opened; the program's and the document's. Conditions: the bytes can be read; they are at most 2^47 - 5000. -/
namespace Go
open Go.RowKit
theorem u8v_cell : Extern.Stop.cell = u8v := funext fun _ => rfl
theorem wpList_eql_bytes {P : Program} {w : World} {Q : Exit → Act → World → Prop} {ops : Array Oper} {rest : List Oper} {o : Oper} {a : Act} (hgd : o.guard = none) (t e r : TypeId) (x y : Operand) (ho : o.op = .binOp .eql t x y r) (n : Nat)
    (ht : P.underlying t = some (.array n e)) (he : P.underlying e = some (.int .u8)) (hsz : (P.info? e).map (·.size) = some 1) (hm : P.eqGuardType P.depth t = false)
    (l l' : List UInt8) (hx : a.eval x = .agg (l.map u8v).toArray) (hy : a.eval y = .agg (l'.map u8v).toArray) (hl : l.length = n) (hl' : l'.length = n)
    (h : wpList P ops Q rest (a.put o.dst (.bool (decide (l = l')))) w) : wpList P ops Q (o :: rest) a w := by
  refine wpList_run (.bool (decide (l = l'))) hgd ?_ h
  obtain ⟨i, hi, hs⟩ := Option.map_eq_some_iff.1 hsz
  have hsz' : ∀ w, (sizeOf e).run P w = .ok 1 w := fun w => by simp [sizeOf, typeInfo, hi, hs]
  have h1 := run_eql_bytes (P := P) w t e n ht he hsz' l l' hl hl'
  rw [u8v_cell] at h1
  have h2 : (l == l') = decide (l = l') := by by_cases h : l = l' <;> simp [h]
  rw [h2] at h1
  unfold execOp
  simp only [ho, hx, hy, Sem.run_bind, run_eqGuard_agg w .eql t x y _ _ hm, h1, Result.andThen_ok, Sem.run_pure]
/-- A load of a whole array out of the middle of a block. -/
theorem wpQuiet_load_mid {P : Program} {ops : Array Oper} {C : World → Prop} {Q : Act → Prop} {rest : List Oper} {o : Oper} {a : Act} {b off : Nat} {cs : List Value} (hb : ∀ w, C w → w.rangeAt b off cs) (hgd : o.guard = none) (ty : TypeId) (x : Operand) (ho : o.op = .load ty x)
    (hx : a.eval x = .pointer (some ⟨b, off, none⟩)) (d : TypeDesc) (hu : P.underlying ty = some d) (hd : d.isRow = true) {n : Nat} (hi : (P.info? ty).map (·.size) = some n) (hn : cs.length = n)
    (h : wpQuiet P ops C Q rest (a.put o.dst (.agg cs.toArray))) : wpQuiet P ops C Q (o :: rest) a := by
  refine wpQuiet_step fun K hK => ?_
  rw [if_pos (by simp [Region.wanted, hgd])]
  refine ⟨_, fun w hw => ?_, hK _ h⟩
  unfold Oper.quietAt execOp
  simp only [ho, hx, Instr.loadAt, Instr.sureAddr, Sem.run_bind, Sem.run_pure, Result.andThen_ok, run_loadVar_mid w b off ty cs d (hb w hw) hu hd (hn ▸ hi)]
  exact ⟨rfl, rfl⟩
theorem run_cut {P : Program} (w : World) (t e : TypeId) (ht : P.underlying t = some (.slice e)) (hsz : (P.info? e).map (·.size) = some 1) (A : Option Addr) (n c : Nat) (k : IntKind) (K : Nat) (hK : K ≤ n) :
    (Instr.sliceAt t (.slice A n c) (some (.int k (K : Int))) none none).run P w = .ok (.slice (if c = K then A else A.map (·.add K)) (n - K) (c - K)) w := by
  obtain ⟨i, hi, hs⟩ := Option.map_eq_some_iff.1 hsz
  have hsz' : (sizeOf e).run P w = .ok 1 w := by simp [sizeOf, typeInfo, hi, hs]
  have hb : (Instr.sliceBound (.int k (K : Int)) n .sliceB).run P w = .ok K w := by
    have := run_sliceBound (P := P) w k (K : Int) n .sliceB (by omega) (by omega)
    simpa using this
  simp [Instr.sliceAt, Instr.slice, run_underlying ht, Instr.sliceBounds, hb, hsz']
/-- s[k:] of bytes. -/
theorem wpList_cut_bytes {P : Program} {w : World} {Q : Exit → Act → World → Prop} {ops : Array Oper} {rest : List Oper} {o : Oper} {a : Act} (hgd : o.guard = none) (t : TypeId) (x lo : Operand) (ho : o.op = .slice t x (some lo) none none) (e : TypeId)
    (ht : P.underlying t = some (.slice e)) (hsz : (P.info? e).map (·.size) = some 1) (A : Option Addr) (n c : Nat) (k : IntKind) (K : Nat) (hx : a.eval x = .slice A n c) (hlo : a.eval lo = .int k (K : Int)) (l : List UInt8) (hn : n = l.length) (hK : K ≤ n) (hc : n ≤ c) (hb : Bytes w A l)
    (h : ∀ A', Bytes w A' (l.drop K) → (∀ ad, A' = some ad → ∃ ad0, A = some ad0 ∧ ad0.block = ad.block) → wpList P ops Q rest (a.put o.dst (.slice A' (l.drop K).length (c - K))) w) : wpList P ops Q (o :: rest) a w := by
  refine wpList_run (.slice (if c = K then A else A.map (·.add K)) (n - K) (c - K)) hgd (by unfold execOp; simp only [ho, hx, hlo, Option.map_some, Option.map_none, run_cut w t e ht hsz A n c k K hK, Sem.run_bind, Result.andThen_ok, Sem.run_pure]) ?_
  have hlen : n - K = (l.drop K).length := by rw [List.length_drop, hn]
  rw [hlen]
  refine h _ (hb.drop (by omega)) fun ad had => ?_
  split at had
  · exact ⟨ad, had, rfl⟩
  · cases A with
    | none => cases had
    | some ad0 => simp only [Option.map_some, Option.some.injEq] at had; exact ⟨ad0, rfl, by rw [← had]; unfold Addr.add; split <;> rfl⟩
/-- A slice as a pointer to an array. -/
theorem wpQuiet_array {P : Program} {ops : Array Oper} {C : World → Prop} {Q : Act → Prop} {rest : List Oper} {o : Oper} {a : Act} (hgd : o.guard = none) (t : TypeId) (x : Operand) (ho : o.op = .sliceToArrayPointer t x)
    (m : Nat) (e : TypeId) (hu : P.underlying t = some (.array m e)) (A : Option Addr) (n c : Nat) (hx : a.eval x = .slice A n c) (hmn : m ≤ n)
    (h : wpQuiet P ops C Q rest (a.put o.dst (.pointer A))) : wpQuiet P ops C Q (o :: rest) a := by
  refine wpQuiet_step fun K hK => ?_
  rw [if_pos (by simp [Region.wanted, hgd])]
  refine ⟨_, fun w hw => ?_, hK _ h⟩
  unfold Oper.quietAt execOp
  have hn : ¬ n < m := by omega
  simp only [ho, hx, Instr.arrayAt, Sem.run_bind, run_underlying hu, hn, if_false, Sem.run_pure, Result.andThen_ok]
  exact ⟨rfl, rfl⟩
theorem OwnB.lit0 {e : TypeId} (w : World) {base : Nat} (hb : base ≤ w.heap.size) : OwnB e (w.alloc (.cells #[] e)) base (.slice (some ⟨w.heap.size, 0, none⟩) 0 0) [] [] := by
  have := OwnsC.lit (e := e) (size := 1) (base := base) w #[] 0 hb (by simp) (by simp)
  unfold OwnB; simpa using this
namespace Proofs.YtgkljncigbiffaaDoor
theorem nosel : Tryd.prog.eqGuardType Tryd.prog.depth 158 = false := by kernel_rfl
theorem Sha.sum_length (l : List UInt8) : (Sha.sum l).length = 16 := by simp [Sha.sum, Sha.out]
set_option maxHeartbeats 400000 in
theorem right_seal_any (A : Option Addr) (n c : Nat) (l s : List UInt8) (hn : n = l.length) (hc : l.length ≤ c) (hc2 : l.length ≤ 140737488351232 ∧ c ≤ 9223372036854775807) (hs : s.length = 16) (w : World) (hb : Bytes w A l) :
    Calls Tryd.prog 85 #[.slice A n c, .agg (s.map u8v).toArray] w fun e w' => e = .returned (.bool (decide (Sha.sum l = s))) ∧ Below w.heap.size w w' := by
  subst hn
  have hg : Blk (w.alloc (.cells (s.map u8v).toArray 158)) w.heap.size 158 (s.map u8v).toArray := Blk.new _ _ _
  have h0 : Below w.heap.size w (w.alloc (.cells (s.map u8v).toArray 158)) := (Below.refl _ _).alloc (Nat.le_refl _) _
  go_enter Tryd.func85, Tryd.ntmps85
  go_wp2_with fail
  generalize hw1 : w.alloc (.cells (s.map u8v).toArray 158) = w1 at hg h0 ⊢
  have hsz : w1.heap.size = w.heap.size + 1 := by rw [← hw1]; simp
  clear hw1
  have hs16 := Sha.sum_length l
  have hst : ∀ w', Below w1.heap.size w1 w' → Calls Tryd.prog 124 #[.slice A l.length c] w' fun e w'' => e = .returned (.agg ((Sha.sum l).map u8v).toArray) ∧ Below w1.heap.size w1 w'' := fun w' hw' =>
    (sum_any A c l hc hc2 w' (Bytes.below (Bytes.below hb h0) hw')).mono fun e w'' h => ⟨h.1, hw'.trans (h.2.mono hw'.size)⟩
  generalize hS : Sha.sum l = S at hst hs16
  refine wp_region_mix (Below w1.heap.size w1) [0] [1, 2] 3 [4] (by kernel_rfl) (by kernel_rfl) (fun c a a' w h q => ⟨h ▸ q.1, q.2⟩) (Below.refl _ _).drew ?_
  dsimp only [List.filterMap, List.getElem?_cons_zero, List.getElem?_cons_succ]
  repeat (go_big_quiet_step (fail))
  refine wpQuiet_nil ?_
  refine wpQuiet_call Tryd.call124 (by rfl) _ _ (by rfl) _ (by rfl) _ hst ?_
  simp only [Act.put, List.setIfInBounds_toArray, List.set_cons_zero, List.set_cons_succ]
  refine wpQuiet_load_blk (fun w' hw' => hg.below hw' hg.lt) (by rfl) _ _ (by rfl) (by rfl) _ Tryd.underlying158 (by rfl) size16 (by simp [hs]) ?_
  simp only [Act.put, List.setIfInBounds_toArray, List.set_cons_zero, List.set_cons_succ]
  refine wpQuiet_nil ?_
  intro w5 hw5
  go_wp2_with (show wpList _ _ _ ((⟨some 8, _, _, _, _, _⟩ : Oper) :: _) _ _; refine wpList_eql_bytes (o := ⟨some 8, _, _, _, _, _⟩) (by rfl) _ _ _ _ _ (by rfl) 16 Tryd.underlying158 Tryd.underlying5 size1 nosel S s (by rfl) (by rfl) hs16 hs ?_)
  go_ret
  exact ⟨by rw [hS]; rfl, h0.trans (hw5.mono (by omega))⟩
/-- What the bytes are when they are opened: the error's number, and what is told. -/
def Sha.opened (l : List UInt8) : Int × List UInt8 := if l.length < 16 then (4, []) else if Sha.sum (l.drop 16) = l.take 16 then (0, l.drop 16) else (12, [])
end Proofs.YtgkljncigbiffaaDoor
end Go

/- Pairs in memory: whether one may be, whether two are the same. Conditions: they can be read. -/
namespace Go.Proofs.YtgkljncigbiffaaDoor
open Go.RowKit
/-- A pair that can be read; its cells. -/
structure PairAt (w : World) (p : PairT) (A : Option Addr) (c : Nat) (B : Option Addr) (e : Nat) : Prop where
  kc : p.1.length ≤ c
  km : c ≤ 9223372036854775807
  vc : p.2.1.length ≤ e
  vm : e ≤ 9223372036854775807
  k : Bytes w A p.1
  v : Bytes w B p.2.1
def pairc (p : PairT) (A : Option Addr) (c : Nat) (B : Option Addr) (e : Nat) : Array Value := #[.slice A p.1.length c, .slice B p.2.1.length e, .bool p.2.2.1]
theorem PairAt.below {w w' : World} {p : PairT} {A B : Option Addr} {c e : Nat} (h : PairAt w p A c B e) (hb : Below w.heap.size w w') : PairAt w' p A c B e := ⟨h.kc, h.km, h.vc, h.vm, Reads.below h.k hb, Reads.below h.v hb⟩
theorem PairAt.drewN {w : World} {p : PairT} {A B : Option Addr} {c e : Nat} (h : PairAt w p A c B e) (n : Nat) : PairAt (w.drewN n) p A c B e := ⟨h.kc, h.km, h.vc, h.vm, h.k, h.v⟩
/-- Pairs that can be read. -/
def Pairs (w : World) (A : Option Addr) (l : List PairT) : Prop :=
  0 < l.length → ∃ b off, A = some ⟨b, off, none⟩ ∧ b < w.heap.size ∧ ∀ i, (h : i < l.length) → ∃ A1 c1 A2 c2, w.cell? ⟨b, off + i * 3, none⟩ = some (.slice A1 l[i].1.length c1) ∧ w.cell? ⟨b, off + i * 3 + 1, none⟩ = some (.slice A2 l[i].2.1.length c2) ∧ w.cell? ⟨b, off + i * 3 + 2, none⟩ = some (.bool l[i].2.2.1) ∧ PairAt w l[i] A1 c1 A2 c2
theorem Pairs.below {w w' : World} {A : Option Addr} {l : List PairT} (h : Pairs w A l) (hb : Below w.heap.size w w') : Pairs w' A l := fun hp => by
  obtain ⟨b, off, e, hlt, hc⟩ := h hp
  refine ⟨b, off, e, Nat.lt_of_lt_of_le hlt hb.size, fun i hi => ?_⟩
  obtain ⟨A1, c1, A2, c2, k1, k2, k3, k4⟩ := hc i hi
  exact ⟨A1, c1, A2, c2, (hb.cell (p := ⟨b, off + i * 3, none⟩) hlt).trans k1, (hb.cell (p := ⟨b, off + i * 3 + 1, none⟩) hlt).trans k2, (hb.cell (p := ⟨b, off + i * 3 + 2, none⟩) hlt).trans k3, k4.below hb⟩
theorem Pairs.drewN {w : World} {A : Option Addr} {l : List PairT} (h : Pairs w A l) (n : Nat) : Pairs (w.drewN n) A l := fun hp => by
  obtain ⟨b, off, e, hlt, hc⟩ := h hp
  exact ⟨b, off, e, hlt, fun i hi => by obtain ⟨A1, c1, A2, c2, k1, k2, k3, k4⟩ := hc i hi; exact ⟨A1, c1, A2, c2, k1, k2, k3, k4.drewN n⟩⟩
theorem Pairs.nil (w : World) (A : Option Addr) : Pairs w A [] := fun h => absurd h (by simp)
instance {w w' : World} {A : Option Addr} {l : List PairT} : KeepsTo w w' (Pairs w A l) (Pairs w' A l) := ⟨fun hb h => h.below hb⟩
instance {w w' : World} {p : PairT} {A B : Option Addr} {c e : Nat} : KeepsTo w w' (PairAt w p A c B e) (PairAt w' p A c B e) := ⟨fun hb h => h.below hb⟩
theorem pair_eq (p q : PairT) : p = q ↔ (p.1 = q.1 ∧ p.2.1 = q.2.1) ∧ p.2.2.1 = q.2.2.1 := by
  obtain ⟨a, b, c, d⟩ := p
  obtain ⟨a', b', c', d'⟩ := q
  simp [and_assoc]
def pokE (p : PairT) : Int := if pok p = true then 0 else 2
set_option maxRecDepth 100000 in
set_option maxHeartbeats 2000000 in
theorem pcheck_any (p : PairT) (A B : Option Addr) (c e : Nat) (w : World) : Calls Tryd.prog 98 #[.agg (pairc p A c B e)] w fun x w' => x = .returned (.int .i64 (pokE p)) ∧ Below w.heap.size w w' := by
  obtain ⟨k, hk⟩ : ∃ k, k = p.1.length := ⟨_, rfl⟩
  obtain ⟨v, hv⟩ : ∃ v, v = p.2.1.length := ⟨_, rfl⟩
  obtain ⟨g, hg⟩ : ∃ g, g = p.2.2.1 := ⟨_, rfl⟩
  have HP : Hid (pokE p = if (decide (1 ≤ k) && (decide (k ≤ 32) && (decide (v ≤ 128) && (!g || decide (v = 0))))) = true then 0 else 2) := Lib.hid (by unfold pokE pok; rw [hk, hv, hg])
  unfold pairc
  rw [← hk, ← hv, ← hg]
  clear hk hv hg
  generalize pokE p = E at HP ⊢
  go_enter Tryd.func98, Tryd.ntmps98
  by_cases h1 : 1 ≤ k
  case neg =>
    have q1 : decide ((k : Int) < 1) = true := decide_eq_true (by omega)
    have HF := Lib.hid (HP.out.trans (by rw [decide_eq_false h1]; rfl : _ = (2 : Int)))
    clear h1 HP
    go_wp2
    go_ret
    exact ⟨by rw [HF.out]; rfl, by simpa using (Below.refl w.heap.size w).alloc (Nat.le_refl _) _⟩
  have q1 : decide ((k : Int) < 1) = false := decide_eq_false (by omega)
  replace HP := Lib.hid (HP.out.trans (by rw [decide_eq_true h1]))
  by_cases h2 : k ≤ 32
  case neg =>
    have q2 : decide ((k : Int) > 32) = true := decide_eq_true (by omega)
    have HF := Lib.hid (HP.out.trans (by rw [decide_eq_false h2]; rfl : _ = (2 : Int)))
    clear h1 h2 HP
    go_wp2
    go_ret
    exact ⟨by rw [HF.out]; rfl, by simpa using (Below.refl w.heap.size w).alloc (Nat.le_refl _) _⟩
  have q2 : decide ((k : Int) > 32) = false := decide_eq_false (by omega)
  replace HP := Lib.hid (HP.out.trans (by rw [decide_eq_true h2]))
  by_cases h3 : v ≤ 128
  case neg =>
    have q3 : decide ((v : Int) > 128) = true := decide_eq_true (by omega)
    have HF := Lib.hid (HP.out.trans (by rw [decide_eq_false h3]; rfl : _ = (2 : Int)))
    clear h1 h2 h3 HP
    go_wp2
    go_ret
    exact ⟨by rw [HF.out]; rfl, by simpa using (Below.refl w.heap.size w).alloc (Nat.le_refl _) _⟩
  have q3 : decide ((v : Int) > 128) = false := decide_eq_false (by omega)
  replace HP := Lib.hid (HP.out.trans (by rw [decide_eq_true h3]))
  cases g
  case false =>
    have HF := Lib.hid (HP.out.trans (by rfl : _ = (0 : Int)))
    clear h1 h2 h3 HP
    go_wp2
    go_ret
    exact ⟨by rw [HF.out]; rfl, by simpa using (Below.refl w.heap.size w).alloc (Nat.le_refl _) _⟩
  case true =>
    by_cases h4 : v = 0
    case pos =>
      have q4 : decide (0 < v) = false := decide_eq_false (by omega)
      have HF := Lib.hid (HP.out.trans (by rw [decide_eq_true h4]; rfl : _ = (0 : Int)))
      clear h1 h2 h3 h4 HP
      go_wp2
      go_ret
      exact ⟨by rw [HF.out]; rfl, by simpa using (Below.refl w.heap.size w).alloc (Nat.le_refl _) _⟩
    case neg =>
      have q4 : decide (0 < v) = true := decide_eq_true (by omega)
      have HF := Lib.hid (HP.out.trans (by rw [decide_eq_false h4]; rfl : _ = (2 : Int)))
      clear h1 h2 h3 h4 HP
      go_wp2
      go_ret
      exact ⟨by rw [HF.out]; rfl, by simpa using (Below.refl w.heap.size w).alloc (Nat.le_refl _) _⟩
set_option maxRecDepth 100000 in
set_option maxHeartbeats 2000000 in
theorem samePair_any (p q : PairT) (A B A' B' : Option Addr) (c e c' e' : Nat) (w : World) (h : PairAt w p A c B e) (h' : PairAt w q A' c' B' e') :
    Calls Tryd.prog 39 #[.agg (pairc p A c B e), .agg (pairc q A' c' B' e')] w fun x w' => x = .returned (.bool (decide (p = q))) ∧ Below w.heap.size w w' := by
  have HP : Hid (decide (p = q) = (decide (p.1 = q.1) && decide (p.2.1 = q.2.1) && decide (p.2.2.1 = q.2.2.1))) := Lib.hid (by
    rw [← Bool.decide_and, ← Bool.decide_and]
    exact decide_eq_decide.2 (pair_eq p q))
  have hB0 := ((Below.refl w.heap.size w).alloc (Nat.le_refl _) (.cells (pairc p A c B e) 40)).alloc (by simp) (.cells (pairc q A' c' B' e') 40)
  have hg1 := (Blk.new w 40 (pairc p A c B e)).alloc (.cells (pairc q A' c' B' e') 40)
  have hg2 := Blk.new' (w.alloc (.cells (pairc p A c B e) 40)) 40 (pairc q A' c' B' e') (n := w.heap.size + 1) (by simp)
  have hh := h.below hB0
  have hh' := h'.below hB0
  clear h h'
  generalize decide (p = q) = R at HP ⊢
  unfold pairc at hg1 hg2 hB0 hh hh' ⊢
  have d1 := hg1.at_ 0 (v := .slice A p.1.length c) rfl
  have d2 := hg1.at_ 1 (v := .slice B p.2.1.length e) rfl
  have d3 := hg1.at_ 2 (v := .bool p.2.2.1) rfl
  have d4 := hg2.at_ 0 (v := .slice A' q.1.length c') rfl
  have d5 := hg2.at_ 1 (v := .slice B' q.2.1.length e') rfl
  have d6 := hg2.at_ 2 (v := .bool q.2.2.1) rfl
  have H0 := Lib.hid (And.intro hB0 (And.intro hh hh'))
  clear hB0 hg1 hg2 hh hh'
  go_enter Tryd.func39, Tryd.ntmps39
  go_wp2_with fail
  generalize ((w.alloc (.cells #[.slice A p.1.length c, .slice B p.2.1.length e, .bool p.2.2.1] 40)).alloc (.cells #[.slice A' q.1.length c', .slice B' q.2.1.length e', .bool q.2.2.1] 40)) = w1 at H0 d1 d2 d3 d4 d5 d6 ⊢
  refine (sameBytes_any A A' p.1.length q.1.length c c' p.1 q.1 rfl rfl w1 H0.out.2.1.k H0.out.2.2.k).mono ?_
  rintro x w2 ⟨rfl, hw⟩
  obtain rfl := hw.symm
  clear hw
  generalize decide (p.1 = q.1) = b1 at HP ⊢
  cases b1
  · have HF := Lib.hid (HP.out.trans (by simp : _ = false))
    clear HP
    go_wp2
    go_ret
    exact ⟨by rw [HF.out]; rfl, H0.out.1⟩
  go_wp2_with fail
  refine (sameBytes_any B B' p.2.1.length q.2.1.length e e' p.2.1 q.2.1 rfl rfl w1 H0.out.2.1.v H0.out.2.2.v).mono ?_
  rintro x w3 ⟨rfl, hw⟩
  obtain rfl := hw.symm
  clear hw
  generalize decide (p.2.1 = q.2.1) = b2 at HP ⊢
  cases b2
  · have HF := Lib.hid (HP.out.trans (by simp : _ = false))
    clear HP
    go_wp2
    go_ret
    exact ⟨by rw [HF.out]; rfl, H0.out.1⟩
  have HF := Lib.hid (HP.out.trans (by rw [Bool.true_and, Bool.true_and]; cases p.2.2.1 <;> cases q.2.2.1 <;> rfl : _ = (p.2.2.1 == q.2.2.1)))
  clear HP
  go_wp2
  go_ret
  exact ⟨by rw [HF.out]; rfl, H0.out.1⟩
/-- Ahead of each pair: those ahead of it are the same. -/
def SpRel (w : World) (l l' : List PairT) (v : Value) (wr : World) : Prop := ∃ i : Nat, i ≤ l.length ∧ v = .int .i64 (i : Int) ∧ Below w.heap.size w wr ∧ l.take i = l'.take i
theorem SpRel.drewN {w wr : World} {l l' : List PairT} {v : Value} (h : SpRel w l l' v wr) (n : Nat) : SpRel w l l' v (wr.drewN n) := by
  obtain ⟨i, h1, h2, h3, h4⟩ := h
  exact ⟨i, h1, h2, below_drewN h3 n, h4⟩
theorem sizePair : (Tryd.prog.info? 40).map (·.size) = some 3 := by kernel_rfl
theorem range3 {w : World} {b off : Nat} {u v x : Value} (h1 : w.cell? ⟨b, off, none⟩ = some u) (h2 : w.cell? ⟨b, off + 1, none⟩ = some v) (h3 : w.cell? ⟨b, off + 2, none⟩ = some x) : w.rangeAt b off [u, v, x] := fun j y hy => by
  match j with
  | 0 => simp at hy; subst hy; exact h1
  | 1 => simp at hy; subst hy; exact h2
  | 2 => simp at hy; subst hy; exact h3
theorem rangeAt_below {w w' : World} {b off : Nat} {l : List Value} (h : w.rangeAt b off l) (hb : Below w.heap.size w w') : w'.rangeAt b off l := fun j v hv => by
  have h1 := h j v hv
  exact (hb.cell (World.block_lt_of_cell? w _ h1)).trans h1
set_option maxRecDepth 100000 in
set_option maxHeartbeats 2000000 in
theorem samePairs_any (A B : Option Addr) (c d : Nat) (l l' : List PairT) (hl : l.length ≤ 65536) (w : World) (h : Pairs w A l) (h' : Pairs w B l') :
    Calls Tryd.prog 30 #[.slice A l.length c, .slice B l'.length d] w fun e w' => e = .returned (.bool (decide (l = l'))) ∧ Below w.heap.size w w' := by
  have HH := Lib.hid (And.intro h h')
  clear h h'
  by_cases hne : l.length = l'.length
  case neg =>
    rw [show decide (l = l') = false by simp; exact fun e => hne (by rw [e])]
    have hc : ((l.length : Int) != (l'.length : Int)) = true := by simp; omega
    go_enter Tryd.func30, Tryd.ntmps30
    clear HH hl
    go_wp2
    go_ret
    exact ⟨rfl, Below.refl _ _⟩
  have hc : ((l.length : Int) != (l'.length : Int)) = false := by simp; omega
  have HE := Lib.hid hne
  obtain ⟨q, hq⟩ : ∃ q, q = decide (l = l') := ⟨_, rfl⟩
  rw [← hq]
  have HQ := Lib.hid hq
  clear hne hq
  go_enter Tryd.func30, Tryd.ntmps30
  go_wp2_with fail
  go_loopw [5] (fun v wr => SpRel w l l' v wr) (fun v _ => l.length - (intOf v).toNat)
  case atStart => exact ⟨0, Nat.zero_le _, rfl, Below.refl _ _, rfl⟩
  case round =>
    clear hc
    obtain ⟨i, hi, rfl, hB, ht⟩ := hrel
    by_cases hlt : i < l.length
    case neg =>
      have he : q = true := by
        rw [HQ.out, decide_eq_true_eq]
        have e1 : l.take i = l := List.take_of_length_le (by omega)
        have e2 : l'.take i = l' := List.take_of_length_le (by have := HE.out; omega)
        rw [← e1, ht, e2]
      subst he
      have HB := Lib.hid hB
      clear ht hi hB
      go_wp2
      go_ret
      exact ⟨rfl, HB.out⟩
    have hlt' : i < l'.length := by have := HE.out; omega
    obtain ⟨b, off, hAe, -, hcb⟩ := (HH.out.1.below hB) (by omega)
    obtain ⟨b', off', hBe, -, hcb'⟩ := (HH.out.2.below hB) (by omega)
    obtain ⟨A1, c1, A2, c2, d1, d2, d3, hp1⟩ := hcb i hlt
    obtain ⟨B1, e1, B2, e2, d4, d5, d6, hp2⟩ := hcb' i hlt'
    obtain ⟨x, hx⟩ : ∃ x, x = l[i] := ⟨_, rfl⟩
    obtain ⟨y, hy⟩ : ∃ y, y = l'[i] := ⟨_, rfl⟩
    rw [← hx] at d1 d2 d3 hp1
    rw [← hy] at d4 d5 d6 hp2
    have hr1 := range3 d1 d2 d3
    have hr2 := range3 d4 d5 d6
    have HX := Lib.hid (And.intro hx (And.intro hy (And.intro ht (And.intro hB (And.intro hp1 hp2)))))
    subst hAe hBe
    clear hcb hcb' hx hy ht hB d1 d2 d3 d4 d5 d6 hp1 hp2
    go_wp2_with fail
    refine wp_region_planT (fun w' => w'.rangeAt b (off + i * 3) [.slice A1 x.1.length c1, .slice A2 x.2.1.length c2, .bool x.2.2.1] ∧ w'.rangeAt b' (off' + i * 3) [.slice B1 y.1.length e1, .slice B2 y.2.1.length e2, .bool y.2.2.1]) [] [(true, 0), (true, 1), (true, 2), (true, 4), (true, 5), (true, 6), (true, 3), (true, 7), (false, 8), (true, 9)] (by kernel_rfl) (by kernel_rfl) (⟨hr1, hr2⟩) ?_
    refine wpPlan_pure [0, 1, 2, 4, 5, 6] [(true, 3), (true, 7), (false, 8), (true, 9)] _ (by rfl) (by rfl) ?_
    dsimp only [List.filterMap, List.getElem?_cons_zero, List.getElem?_cons_succ]
    repeat (go_big_quiet_step (fail))
    refine wpQuiet_nil ?_
    refine wpPlan_takeL [3, 7] [(false, 8), (true, 9)] _ (by rfl) (by rfl) (⟨hr1, hr2⟩) ?_
    dsimp only [List.filterMap, List.getElem?_cons_zero, List.getElem?_cons_succ]
    (refine wpQuiet_load_mid (fun w' hw' => hw'.1) (by rfl) _ _ (by rfl) (by rfl) _ Tryd.underlying40 (by rfl) (sizePair) (by rfl) ?_; simp only [Act.put, List.setIfInBounds_toArray, List.set_cons_zero, List.set_cons_succ])
    (refine wpQuiet_load_mid (fun w' hw' => hw'.2) (by rfl) _ _ (by rfl) (by rfl) _ Tryd.underlying40 (by rfl) (sizePair) (by rfl) ?_; simp only [Act.put, List.setIfInBounds_toArray, List.set_cons_zero, List.set_cons_succ])
    refine wpQuiet_nil ?_
    refine wpPlan_forceL _ rfl ?_
    go_wp2_with fail
    have hBd : Below wr.heap.size wr wr.drew := (Below.refl _ _).drew
    refine (samePair_any x y A1 A2 B1 B2 c1 c2 e1 e2 wr.drew (HX.out.2.2.2.2.1.below hBd) (HX.out.2.2.2.2.2.below hBd)).mono ?_
    rintro z w2 ⟨rfl, hbx⟩
    have hb2 : Below wr.heap.size wr w2 := hBd.trans hbx
    have hc2 := And.intro (rangeAt_below hr1 hb2) (rangeAt_below hr2 hb2)
    have HB2 := Lib.hid (HX.out.2.2.2.1.trans (hb2.mono HX.out.2.2.2.1.size))
    clear hBd hbx hb2 hr1 hr2
    go_wp2_with fail
    refine PlanQ.in_ hc2 ?_
    refine wpPlan_pure [9] [] _ (by rfl) (by rfl) ?_
    dsimp only [List.filterMap, List.getElem?_cons_zero, List.getElem?_cons_succ]
    repeat (go_big_quiet_step (fail))
    refine wpQuiet_nil ?_
    refine wpPlan_tidy ?_
    clear hc2
    by_cases hxy : x = y
    · rw [decide_eq_true hxy]
      have HF := Lib.hid (show SpRel w l l' (.int .i64 ((i + 1 : Nat) : Int)) w2 from ⟨i + 1, by omega, rfl, HB2.out, by
        rw [List.take_succ_eq_append_getElem hlt, List.take_succ_eq_append_getElem hlt', HX.out.2.2.1, ← HX.out.1, ← HX.out.2.1, hxy]⟩)
      clear hi hxy
      go_wp2
      go_roundw
      case rel => exact HF.out
      case measure => simp [intOf]; omega
    · rw [decide_eq_false hxy]
      have he : q = false := by
        rw [HQ.out, decide_eq_false_iff_not]
        intro e
        apply hxy
        rw [HX.out.1, HX.out.2.1]
        simp [e]
      subst he
      clear hi hxy
      go_wp2
      go_ret
      exact ⟨rfl, HB2.out⟩
end Go.Proofs.YtgkljncigbiffaaDoor

/- How a loop's measure falls; a byte of a number; a grid's list when the first blocks are taken. Plain facts. No condition. -/
namespace Go.Proofs.YtgkljncigbiffaaDoor
open Go.RowKit
def cL (n i : Nat) : List Nat := List.replicate i 1 ++ List.replicate (n - i) 0
theorem meas_up {m i : Nat} {a b : Value} (ha : intOf a = ((i + 1 : Nat) : Int)) (hb : intOf b = (i : Int)) (h : i < m) : m - (intOf a).toNat < m - (intOf b).toNat := by rw [ha, hb]; omega
theorem u8_of {n : Nat} (h : n < 256) : u8v (UInt8.ofNat n) = .int .u8 (n : Int) := by unfold u8v; rw [iu8_ofNat n h]
end Go.Proofs.YtgkljncigbiffaaDoor

/- Maps keyed by ints, in a block of the call's own: what is looked up, stored, cleared, made. Plain facts over any program. No condition. -/
namespace Go
open Go.RowKit Go.Instr Go.MapKept
/-- A map's block. -/
def MapB (w : World) (g : Nat) (es : Array MapEntry) (c : Nat) : Prop := w.heap[g]? = some (.map es c)
section
variable {w w' : World} {g : Nat} {es : Array MapEntry} {c : Nat}
theorem MapB.lt (h : MapB w g es c) : g < w.heap.size := (Array.getElem?_eq_some_iff.1 h).1
theorem MapB.below {B : Nat} (h : MapB w g es c) (hb : Below B w w') (hlt : g < B) : MapB w' g es c := (hb.block g hlt).trans h
theorem MapB.upd {k : Nat} (h : MapB w g es c) (u : Upd k w w') (hne : g ≠ k) : MapB w' g es c := (u.block g hne).trans h
theorem MapB.drew (h : MapB w g es c) : MapB w.drew g es c := h
theorem MapB.alloc (h : MapB w g es c) (o : Obj) : MapB (w.alloc o) g es c := by
  have hl := h.lt
  unfold MapB at *
  rw [← h]
  exact ((Below.refl w.heap.size w).alloc (Nat.le_refl _) o).block g hl
theorem MapB.new (w : World) (es : Array MapEntry) (c : Nat) : MapB (w.alloc (.map es c)) w.heap.size es c := heap_alloc_last w _
instance : KeepsTo w w' (MapB w g es c) (MapB w' g es c) := ⟨fun hb h => h.below hb h.lt⟩
end
/-- The place and the element of a key. -/
def mfind : List MapEntry → Int → Nat → Option (Nat × Value)
  | [], _, _ => none
  | e :: es, a, i => match e.key with
    | .int .i64 b => if a = b then some (i, e.val) else mfind es a (i + 1)
    | _ => mfind es a (i + 1)
def IntKeys (es : List MapEntry) : Prop := ∀ e ∈ es, ∃ a, e.key = .int .i64 a
def mget (es : Array MapEntry) (a : Int) : Option Value := (mfind es.toList a 0).map (·.2)
theorem findNow_int (a : Int) : ∀ (es : List MapEntry) (i : Nat), IntKeys es → findNow (.int .i64) (.int .i64 a) es i = some (mfind es a i)
  | [], _, _ => rfl
  | e :: es, i, h => by
    obtain ⟨b, hb⟩ := h e (.head _)
    have ih := findNow_int a es (i + 1) (fun x hx => h x (.tail _ hx))
    unfold findNow mfind
    rw [hb]
    by_cases hab : a = b
    · subst hab; simp [sameNow]
    · simp only [sameNow, if_true, beq_eq_false_iff_ne.2 hab, if_neg hab, ih]
/-- What a store leaves. -/
def mput (es : Array MapEntry) (c : Nat) (a : Int) (v : Value) : Array MapEntry × Nat :=
  match mfind es.toList a 0 with
  | some (i, _) => (es.modify i fun e => { e with key := .int .i64 a, val := v }, c)
  | none => (es.push { key := .int .i64 a, val := v, born := c }, c + 1)
theorem mfind_lt (a : Int) : ∀ (es : List MapEntry) (i j : Nat) (v : Value), mfind es a i = some (j, v) → i ≤ j ∧ ∃ e, es[j - i]? = some e ∧ e.key = .int .i64 a ∧ e.val = v
  | [], _, _, _, h => by cases h
  | e :: es, i, j, v, h => by
    unfold mfind at h
    split at h
    · rename_i b hb
      by_cases hab : a = b
      · rw [if_pos hab] at h
        injection h with h; injection h with h1 h2
        subst h1 h2
        exact ⟨Nat.le_refl _, e, by simp, by rw [hb, hab], rfl⟩
      · rw [if_neg hab] at h
        obtain ⟨h1, e', h2, h3⟩ := mfind_lt a es (i + 1) j v h
        exact ⟨by omega, e', by rw [show j - i = (j - (i + 1)) + 1 by omega]; simpa using h2, h3⟩
    · obtain ⟨h1, e', h2, h3⟩ := mfind_lt a es (i + 1) j v h
      exact ⟨by omega, e', by rw [show j - i = (j - (i + 1)) + 1 by omega]; simpa using h2, h3⟩
theorem IntKeys.put {es : Array MapEntry} {c : Nat} {a : Int} {v : Value} (h : IntKeys es.toList) : IntKeys (mput es c a v).1.toList := by
  unfold mput
  split
  · intro e he
    rw [Array.toList_modify] at he
    obtain ⟨k, hk, rfl⟩ := List.getElem_of_mem he
    rw [List.getElem_modify]
    split
    · exact ⟨a, rfl⟩
    · exact h _ (List.getElem_mem _)
  · intro e he
    rw [Array.toList_push, List.mem_append, List.mem_singleton] at he
    rcases he with he | rfl
    · exact h e he
    · exact ⟨a, rfl⟩
section
variable {P : Program} {w : World} {ops : Array Oper} {rest : List Oper} {o : Oper} {a : Act} {Q : Exit → Act → World → Prop}
theorem run_lookup_int (t kt et : TypeId) (ht : P.underlying t = some (.map kt et)) (hk : P.underlying kt = some (.int .i64)) (g : Nat) (es : Array MapEntry) (c : Nat) (hg : MapB w g es c) (hes : IntKeys es.toList) (x : Int) (z : Value)
    (hz : (zeroValue et).run P w = .ok z w) : (lookup t (.map (some g)) (.int .i64 x) true).run P w = .ok (.tuple #[(mget es x).getD z, .bool (mget es x).isSome]) w := by
  have h1 := run_checkKey (P := P) (w := w) (k := .int .i64 x) hk rfl es.isEmpty 9999
  have h2 := run_findKey (w := w) hk (findNow_int x es.toList 0 hes)
  have h0 : (getObj g).run P w = .ok (.map es c) w := MapKept.run_getObj_map hg
  unfold lookup mget
  cases hm : mfind es.toList x 0 with
  | none => rw [hm] at h2; simp [run_underlying ht, h0, h1, h2, hz, Result.andThen]
  | some p => rw [hm] at h2; simp [run_underlying ht, h0, h1, h2, Result.andThen]
theorem wpList_lookup_int (hgd : o.guard = none) (t kt et : TypeId) (m k : Operand) (ho : o.op = .lookup t m k true) (ht : P.underlying t = some (.map kt et)) (hk : P.underlying kt = some (.int .i64)) (g : Nat) (es : Array MapEntry) (c : Nat)
    (hg : MapB w g es c) (hes : IntKeys es.toList) (x : Int) (z : Value) (hz : (zeroValue et).run P w = .ok z w) (hm : a.eval m = .map (some g)) (hx : a.eval k = .int .i64 x)
    (h : wpList P ops Q rest (a.put o.dst (.tuple #[(mget es x).getD z, .bool (mget es x).isSome])) w) : wpList P ops Q (o :: rest) a w :=
  wpList_run _ hgd (by unfold execOp; simp only [ho, hm, hx, run_lookup_int t kt et ht hk g es c hg hes x z hz, Sem.run_bind, Result.andThen_ok, Sem.run_pure]) h
theorem sameBits_int (x : Int) : sameBits 10000 (.int .i64 x) (.int .i64 x) = true := by simp [sameBits]
theorem run_mapUpdate_int (t kt et : TypeId) (ht : P.underlying t = some (.map kt et)) (hk : P.underlying kt = some (.int .i64)) (g : Nat) (es : Array MapEntry) (c : Nat) (hg : MapB w g es c) (hes : IntKeys es.toList) (x : Int) (v : Value) :
    ∃ w', (mapUpdate t (.map (some g)) (.int .i64 x) v).run P w = .ok () w' ∧ MapB w' g (mput es c x v).1 (mput es c x v).2 ∧ Upd g w w' := by
  have h1 := run_checkKey (P := P) (w := w) (k := .int .i64 x) hk rfl false 9999
  have h2 := run_findKey (w := w) hk (findNow_int x es.toList 0 hes)
  have hu : ∀ ob, MapB w g es c → Upd g w { w with heap := w.heap.setIfInBounds g ob } := fun ob _ => ⟨rfl, rfl, rfl, by simp, fun k hk => by simp [Ne.symm hk]⟩
  have h0 : (getObj g).run P w = .ok (.map es c) w := MapKept.run_getObj_map hg
  have hs : ∀ ob, (setObj g ob).run P w = .ok () { w with heap := w.heap.setIfInBounds g ob } := fun ob => MapKept.run_setObj_map ob hg
  unfold mapUpdate mput
  cases hm : mfind es.toList x 0 with
  | none =>
    rw [hm] at h2
    simp only [Sem.run_bind, run_underlying ht, Result.andThen_ok, h0, h1, h2, hs]
    exact ⟨_, rfl, (heap_set hg).1, hu _ hg⟩
  | some p =>
    obtain ⟨i, v0⟩ := p
    obtain ⟨_, e, h3, h4, _⟩ := mfind_lt x es.toList 0 i v0 hm
    have h5 : ((es[i]?).map (·.key)).getD (.int .i64 x) = .int .i64 x := by
      rw [Nat.sub_zero, Array.getElem?_toList] at h3
      rw [h3]; exact h4
    rw [hm] at h2
    simp only [Sem.run_bind, run_underlying ht, Result.andThen_ok, h0, h1, h2, h5, keyThatStays, sameBits_int, if_true, Sem.run_pure, hs]
    exact ⟨_, rfl, (heap_set hg).1, hu _ hg⟩
theorem wpList_mapUpdate_int (hgd : o.guard = none) (t kt et : TypeId) (m k y : Operand) (ho : o.op = .mapUpdate t m k y) (ht : P.underlying t = some (.map kt et)) (hk : P.underlying kt = some (.int .i64)) (g : Nat) (es : Array MapEntry) (c : Nat)
    (hg : MapB w g es c) (hes : IntKeys es.toList) (x : Int) (v : Value) (hm : a.eval m = .map (some g)) (hx : a.eval k = .int .i64 x) (hy : a.eval y = v)
    (h : ∀ w', MapB w' g (mput es c x v).1 (mput es c x v).2 → Upd g w w' → wpList P ops Q rest (a.put o.dst undef) w') : wpList P ops Q (o :: rest) a w := by
  obtain ⟨w', h1, h2, h3⟩ := run_mapUpdate_int t kt et ht hk g es c hg hes x v
  refine wpList_plain hgd fun _ hK => ?_
  unfold Oper.wp execOp
  simp only [ho, hm, hx, hy, h1, Sem.run_bind, Sem.run_pure, Result.andThen_ok]
  exact hK _ _ (h w' h2 h3)
end
end Go

/- Worlds that differ in a few blocks and in new ones alone. Plain facts. No condition. -/
namespace Go
open Go.RowKit
/-- Of the blocks that were there, those of X alone may have been written. -/
structure Near (X : List Nat) (w w' : World) : Prop where
  os : w'.os = w.os
  tape : w'.tape = w.tape
  output : w'.output = w.output
  size : w.heap.size ≤ w'.heap.size
  block : ∀ k, k < w.heap.size → k ∉ X → w'.heap[k]? = w.heap[k]?
section
variable {X Y : List Nat} {w w' w'' : World}
theorem Near.refl (X : List Nat) (w : World) : Near X w w := ⟨rfl, rfl, rfl, Nat.le_refl _, fun _ _ _ => rfl⟩
theorem Near.trans (h : Near X w w') (k : Near X w' w'') : Near X w w'' :=
  ⟨k.os.trans h.os, k.tape.trans h.tape, k.output.trans h.output, Nat.le_trans h.size k.size, fun x hx hn => (k.block x (Nat.lt_of_lt_of_le hx h.size) hn).trans (h.block x hx hn)⟩
theorem Near.wider (h : Near X w w') (hs : ∀ x ∈ X, x ∈ Y) : Near Y w w' := ⟨h.os, h.tape, h.output, h.size, fun k hk hn => h.block k hk fun hx => hn (hs k hx)⟩
theorem Near.below (h : Below w.heap.size w w') : Near X w w' := ⟨h.os, h.tape, h.output, h.size, fun k hk _ => h.block k hk⟩
theorem Near.upd {g : Nat} (u : Upd g w w') (hg : g ∈ X) : Near X w w' := ⟨u.os, u.tape, u.output, by rw [u.size]; exact Nat.le_refl _, fun k _ hn => u.block k fun e => hn (e ▸ hg)⟩
theorem Near.drew (h : Near X w w') : Near X w w'.drew := ⟨h.os, h.tape, h.output, h.size, h.block⟩
/-- Blocks that came later may be written as well. -/
theorem Near.new {g : Nat} (h : Near X w w') (u : Upd g w' w'') (hg : w.heap.size ≤ g) : Near X w w'' :=
  ⟨u.os.trans h.os, u.tape.trans h.tape, u.output.trans h.output, by rw [u.size]; exact h.size, fun k hk hn => (u.block k (by omega)).trans (h.block k hk hn)⟩
theorem Near.toBelow {B : Nat} (h : Near X w w') (hX : ∀ x ∈ X, B ≤ x) (hB : B ≤ w.heap.size) : Below B w w' := ⟨h.os, h.tape, h.output, h.size, fun k hk => h.block k (by omega) fun hx => by have := hX k hx; omega⟩
theorem Blk.near {g : Nat} {t : TypeId} {cs : Array Value} (h : Blk w g t cs) (k : Near X w w') (hn : g ∉ X) : Blk w' g t cs := (k.block g h.lt hn).trans h
theorem MapB.near {g : Nat} {es : Array MapEntry} {c : Nat} (h : MapB w g es c) (k : Near X w w') (hn : g ∉ X) : MapB w' g es c := (k.block g h.lt hn).trans h
theorem Near.cell {p : Addr} (k : Near X w w') (hp : p.block < w.heap.size) (hn : p.block ∉ X) : w'.cell? p = w.cell? p := by
  unfold World.cell?; rw [k.block _ hp hn]
theorem Bytes.near {A : Option Addr} {l : List UInt8} (h : Bytes w A l) (k : Near X w w') (hn : ∀ ad, A = some ad → ad.block ∉ X) : Bytes w' A l := fun hne => by
  obtain ⟨b, off, e, hc⟩ := h hne
  refine ⟨b, off, e, fun j v hv => ?_⟩
  have h1 := hc j v hv
  exact (k.cell (p := ⟨b, off + j, none⟩) (World.block_lt_of_cell? w _ h1) (hn ⟨b, off, none⟩ e)).trans h1
end
end Go

/- Maps keyed by arrays or structs, in a block of the call's own: what is looked up, stored, stored through an entry. Plain facts over any program. No condition. -/
namespace Go
open Go.RowKit Go.Instr Go.MapKept
/-- Keys of a type: which values they are, that they may be keys, how they are compared. -/
structure KeyLaw (P : Program) (kt : TypeId) {α : Type} (ok : α → Prop) (enc : α → Value) : Prop where
  wide : (match P.underlying kt with | some (.array _ _) | some (.struct _) => true | _ => false) = true
  check : ∀ em x w, ok x → (checkKey em 10000 kt (enc x)).run P w = .ok () w
  eq : ∀ x y w, ok x → ok y → ∃ r : Bool, (Op.equal kt (enc x) (enc y)).run P w = .ok r w ∧ (r = true ↔ x = y)
  bits : ∀ x, ok x → sameBits 10000 (enc x) (enc x) = true
section
variable {α : Type}
def kfind [DecidableEq α] : List (α × Value) → α → Nat → Option (Nat × Value)
  | [], _, _ => none
  | p :: l, x, i => if x = p.1 then some (i, p.2) else kfind l x (i + 1)
def kget [DecidableEq α] (l : List (α × Value)) (x : α) : Option Value := (kfind l x 0).map (·.2)
def kput [DecidableEq α] (l : List (α × Value)) (x : α) (v : Value) : List (α × Value) := match kfind l x 0 with | some p => l.set p.1 (x, v) | none => l ++ [(x, v)]
theorem kfind_lt [DecidableEq α] {x : α} : ∀ (l : List (α × Value)) (i j : Nat) (v : Value), kfind l x i = some (j, v) → i ≤ j ∧ l[j - i]? = some (x, v)
  | [], _, _, _, h => by cases h
  | p :: l, i, j, v, h => by
    unfold kfind at h
    by_cases hx : x = p.1
    · rw [if_pos hx] at h
      injection h with h; injection h with h1 h2
      subst h1 h2
      exact ⟨Nat.le_refl _, by rw [Nat.sub_self, hx]; rfl⟩
    · rw [if_neg hx] at h
      obtain ⟨h1, h2⟩ := kfind_lt l (i + 1) j v h
      exact ⟨by omega, by rw [show j - i = (j - (i + 1)) + 1 by omega]; simpa using h2⟩
theorem kfind_shift [DecidableEq α] {x : α} : ∀ (l : List (α × Value)) (i : Nat), kfind l x i = (kfind l x 0).map fun p => (p.1 + i, p.2)
  | [], _ => rfl
  | p :: l, i => by
    unfold kfind
    by_cases hx : x = p.1
    · rw [if_pos hx, if_pos hx]; simp
    · rw [if_neg hx, if_neg hx, kfind_shift l (i + 1), kfind_shift l 1, Option.map_map]
      congr 1
      funext p
      simp only [Function.comp, Prod.mk.injEq, and_true]
      omega
theorem kget_cons [DecidableEq α] {p : α × Value} {l : List (α × Value)} {x : α} : kget (p :: l) x = if x = p.1 then some p.2 else kget l x := by
  unfold kget
  rw [kfind]
  by_cases hx : x = p.1
  · rw [if_pos hx, if_pos hx]; rfl
  · rw [if_neg hx, if_neg hx, kfind_shift l 1, Option.map_map]
    rfl
theorem kput_cons [DecidableEq α] {p : α × Value} {l : List (α × Value)} {x : α} {v : Value} : kput (p :: l) x v = if x = p.1 then (x, v) :: l else p :: kput l x v := by
  unfold kput
  rw [kfind]
  by_cases hx : x = p.1
  · rw [if_pos hx, if_pos hx]; rfl
  · rw [if_neg hx, if_neg hx, kfind_shift l 1]
    cases kfind l x 0 <;> rfl
variable {P : Program} {kt : TypeId} {ok : α → Prop} {enc : α → Value}
/-- A map's entries are these pairs. -/
structure Says (ok : α → Prop) (enc : α → Value) (es : Array MapEntry) (c : Nat) (l : List (α × Value)) : Prop where
  pairs : es.toList.map (fun e => (e.key, e.val)) = l.map fun p => (enc p.1, p.2)
  born : (es.toList.map (·.born)).Nodup
  old : ∀ e ∈ es.toList, e.born < c
  ok : ∀ p ∈ l, ok p.1
def MapK (w : World) (g : Nat) (ok : α → Prop) (enc : α → Value) (l : List (α × Value)) : Prop := ∃ es c, MapB w g es c ∧ Says ok enc es c l
theorem MapK.lt {w : World} {g : Nat} {l : List (α × Value)} (h : MapK w g ok enc l) : g < w.heap.size := by obtain ⟨es, c, h1, _⟩ := h; exact h1.lt
theorem MapK.near {w w' : World} {g : Nat} {l : List (α × Value)} {X : List Nat} (h : MapK w g ok enc l) (k : Near X w w') (hn : g ∉ X) : MapK w' g ok enc l := by obtain ⟨es, c, h1, h2⟩ := h; exact ⟨es, c, h1.near k hn, h2⟩
theorem MapK.new (w : World) (c : Nat) : MapK (w.alloc (.map #[] c)) w.heap.size ok enc ([] : List (α × Value)) := ⟨#[], c, MapB.new w _ _, rfl, by simp, by simp, by simp⟩
theorem run_findAsking_k [DecidableEq α] (hk : KeyLaw P kt ok enc) (x : α) (hx : ok x) (w : World) : ∀ (es : List MapEntry) (l : List (α × Value)) (i : Nat), es.map (fun e => (e.key, e.val)) = l.map (fun p => (enc p.1, p.2)) → (∀ p ∈ l, ok p.1) → (findAsking kt (enc x) es i).run P w = .ok (kfind l x i) w
  | [], [], _, _, _ => by simp [findAsking, kfind]
  | [], _ :: _, _, h, _ => by simp at h
  | _ :: _, [], _, h, _ => by simp at h
  | e :: es, p :: l, i, h, ho => by
    simp only [List.map_cons, List.cons.injEq, Prod.mk.injEq] at h
    obtain ⟨⟨h1, h2⟩, h3⟩ := h
    obtain ⟨r, hr, hiff⟩ := hk.eq x p.1 w hx (ho p (.head _))
    have ih := run_findAsking_k hk x hx w es l (i + 1) h3 fun q hq => ho q (.tail _ hq)
    unfold findAsking kfind
    rw [h1]
    simp only [Sem.run_bind, hr, Result.andThen_ok]
    by_cases hxp : x = p.1
    · rw [hiff.2 hxp, if_pos hxp, h2]; simp
    · have : r = false := by cases r; rfl; exact absurd (hiff.1 rfl) hxp
      rw [this, if_neg hxp]
      simpa using ih
theorem run_findKey_k [DecidableEq α] (hk : KeyLaw P kt ok enc) (x : α) (hx : ok x) (w : World) {es : Array MapEntry} {c : Nat} {l : List (α × Value)} (hs : Says ok enc es c l) : (findKey kt (enc x) es.toList).run P w = .ok (kfind l x 0) w := by
  rw [run_findKey_eq (w := w) hk.wide]
  exact run_findAsking_k hk x hx w es.toList l 0 hs.pairs hs.ok
theorem run_lookup_k [DecidableEq α] (hk : KeyLaw P kt ok enc) (t et : TypeId) (ht : P.underlying t = some (.map kt et)) {w : World} {g : Nat} {l : List (α × Value)} (hg : MapK w g ok enc l) (x : α) (hx : ok x) (z : Value) (hz : (zeroValue et).run P w = .ok z w) (ck : Bool) :
    (lookup t (.map (some g)) (enc x) ck).run P w = .ok (if ck then .tuple #[(kget l x).getD z, .bool (kget l x).isSome] else (kget l x).getD z) w := by
  obtain ⟨es, c, hb, hs⟩ := hg
  have h1 := hk.check es.isEmpty x w hx
  have h2 := run_findKey_k hk x hx w hs
  have h0 : (getObj g).run P w = .ok (.map es c) w := MapKept.run_getObj_map hb
  unfold lookup kget
  cases hm : kfind l x 0 with
  | none => rw [hm] at h2; cases ck <;> simp [run_underlying ht, h0, h1, h2, hz, Result.andThen]
  | some p => rw [hm] at h2; cases ck <;> simp [run_underlying ht, h0, h1, h2, Result.andThen]
theorem Says.entry {es : Array MapEntry} {c : Nat} {l : List (α × Value)} (hs : Says ok enc es c l) {i : Nat} {p : α × Value} (h : l[i]? = some p) : ∃ e, es[i]? = some e ∧ e.key = enc p.1 ∧ e.val = p.2 := by
  have h1 := congrArg (·[i]?) hs.pairs
  simp only [List.getElem?_map, h, Option.map_some] at h1
  rw [Array.getElem?_toList] at h1
  cases he : es[i]? with
  | none => rw [he] at h1; simp at h1
  | some e =>
    rw [he] at h1
    simp only [Option.map_some, Option.some.injEq, Prod.mk.injEq] at h1
    exact ⟨e, rfl, h1.1, h1.2⟩
/-- An entry of the map is given its key anew, or a value. -/
theorem Says.modify {es : Array MapEntry} {c : Nat} {l : List (α × Value)} (hs : Says ok enc es c l) (i : Nat) (f : MapEntry → MapEntry) (q : α × Value) (hf : ∀ e, es[i]? = some e → (f e).key = enc q.1 ∧ (f e).val = q.2) (hb : ∀ e, (f e).born = e.born) (ho : ok q.1) :
    Says ok enc (es.modify i f) c (l.set i q) := by
  have hborn : (es.modify i f).toList.map (·.born) = es.toList.map (·.born) := by
    apply List.ext_getElem?
    intro j
    rw [Array.toList_modify, List.getElem?_map, List.getElem?_map, List.getElem?_modify]
    by_cases hij : i = j
    · subst hij; cases es.toList[i]? <;> simp [hb]
    · cases es.toList[j]? <;> simp [hij]
  refine ⟨?_, by rw [hborn]; exact hs.born, fun e he => ?_, fun p hp => ?_⟩
  · apply List.ext_getElem?
    intro j
    have h1 := congrArg (·[j]?) hs.pairs
    simp only [List.getElem?_map] at h1
    rw [List.getElem?_map, List.getElem?_map, Array.toList_modify, List.getElem?_modify, List.getElem?_set]
    by_cases hij : i = j
    · subst hij
      rw [if_pos rfl]
      cases he : es.toList[i]? with
      | none =>
        rw [he] at h1
        have h9 : l[i]? = none := by cases h : l[i]? with | none => rfl | some _ => rw [h] at h1; cases h1
        have : ¬ i < l.length := by rw [List.getElem?_eq_none_iff] at h9; omega
        rw [if_neg this]; rfl
      | some e =>
        rw [he] at h1
        have : i < l.length := by
          by_cases h : i < l.length
          · exact h
          · rw [List.getElem?_eq_none (by omega)] at h1; cases h1
        rw [if_pos this]
        obtain ⟨h2, h3⟩ := hf e (by rw [← Array.getElem?_toList]; exact he)
        simp [h2, h3]
    · rw [if_neg hij]
      cases he : es.toList[j]? with
      | none => rw [he] at h1; simpa [hij] using h1
      | some e => rw [he] at h1; simpa [hij] using h1
  · have hm : e.born ∈ (es.modify i f).toList.map (·.born) := List.mem_map.2 ⟨e, he, rfl⟩
    rw [hborn] at hm
    obtain ⟨e', he', hb'⟩ := List.mem_map.1 hm
    rw [← hb']; exact hs.old e' he'
  · rcases List.mem_or_eq_of_mem_set hp with h | h
    · exact hs.ok p h
    · rw [h]; exact ho
theorem Says.push {es : Array MapEntry} {c : Nat} {l : List (α × Value)} (hs : Says ok enc es c l) (x : α) (v : Value) (hx : ok x) : Says ok enc (es.push { key := enc x, val := v, born := c }) (c + 1) (l ++ [(x, v)]) := by
  refine ⟨?_, ?_, fun e he => ?_, fun p hp => ?_⟩
  · rw [Array.toList_push, List.map_append, List.map_append, hs.pairs]; rfl
  · rw [Array.toList_push, List.map_append]
    refine List.nodup_append.2 ⟨hs.born, by simp, fun a ha b hb => ?_⟩
    obtain ⟨e, he, rfl⟩ := List.mem_map.1 ha
    simp only [List.map_cons, List.map_nil, List.mem_singleton] at hb
    subst hb
    have := hs.old e he
    omega
  · rw [Array.toList_push, List.mem_append, List.mem_singleton] at he
    rcases he with he | rfl
    · have := hs.old e he; omega
    · exact Nat.lt_succ_self c
  · rw [List.mem_append, List.mem_singleton] at hp
    rcases hp with hp | rfl
    · exact hs.ok p hp
    · exact hx
theorem upd_heap {w : World} {g : Nat} (ob : Obj) : Upd g w { w with heap := w.heap.setIfInBounds g ob } := ⟨rfl, rfl, rfl, by simp, fun k hk => by simp [Ne.symm hk]⟩
theorem run_mapUpdate_k [DecidableEq α] (hk : KeyLaw P kt ok enc) (t et : TypeId) (ht : P.underlying t = some (.map kt et)) {w : World} {g : Nat} {l : List (α × Value)} (hg : MapK w g ok enc l) (x : α) (hx : ok x) (v : Value) :
    ∃ w', (mapUpdate t (.map (some g)) (enc x) v).run P w = .ok () w' ∧ MapK w' g ok enc (kput l x v) ∧ Upd g w w' := by
  obtain ⟨es, c, hb, hs⟩ := hg
  have h1 := hk.check false x w hx
  have h2 := run_findKey_k hk x hx w hs
  have h0 : (getObj g).run P w = .ok (.map es c) w := MapKept.run_getObj_map hb
  have hst : ∀ ob, (setObj g ob).run P w = .ok () { w with heap := w.heap.setIfInBounds g ob } := fun ob => MapKept.run_setObj_map ob hb
  unfold mapUpdate kput
  cases hm : kfind l x 0 with
  | none =>
    rw [hm] at h2
    simp only [Sem.run_bind, run_underlying ht, Result.andThen_ok, h0, h1, h2, hst]
    exact ⟨_, rfl, ⟨_, _, (heap_set hb).1, hs.push x v hx⟩, upd_heap _⟩
  | some p =>
    obtain ⟨i, v0⟩ := p
    have h3 := (kfind_lt l 0 i v0 hm).2
    rw [Nat.sub_zero] at h3
    obtain ⟨e, he, hke, _⟩ := hs.entry h3
    have h5 : ((es[i]?).map (·.key)).getD (enc x) = enc x := by rw [he]; exact hke
    rw [hm] at h2
    simp only [Sem.run_bind, run_underlying ht, Result.andThen_ok, h0, h1, h2, h5, keyThatStays, hk.bits x hx, if_true, Sem.run_pure, hst]
    exact ⟨_, rfl, ⟨_, _, (heap_set hb).1, hs.modify i _ (x, v) (fun _ _ => ⟨rfl, rfl⟩) (fun _ => rfl) hx⟩, upd_heap _⟩
end
end Go
