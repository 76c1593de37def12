/- The program's seal of bytes answers what the plain function says. Condition: the bytes can be read and their room is at most 2^47 - 4096. -/
import Derived.Test.YtekdcjaljjlemaaMHeaderTurned5
namespace Go.Proofs.Ytekdcjaljjlemaa
open Go.RowKit
set_option maxHeartbeats 400000 in
set_option maxRecDepth 100000 in
theorem constants_any (w : World) : Calls Try.prog 37 #[] w fun e w' => e = .returned (.agg karr) ∧ Below w.heap.size w w' := by
  have a64 := alloc64
  have hz := Blk.new w 78 zero64
  go_enter Try.func37, Try.ntmps37
  go_wp2_with (first | (show wpList _ _ _ ((⟨some 1, .build _ _, _, _, _, _⟩ : Oper) :: _) _ _; (refine wpList_run (o := ⟨some 1, .build _ _, _, _, _, _⟩) (.agg karr) (by rfl) (by kernel_rfl) ?_)) | (show wpList _ _ _ ((⟨none, _, _, _, _, _⟩ : Oper) :: _) _ _; ((refine wpList_store_blk (o := ⟨none, _, _, _, _, _⟩) hz (by rfl) _ _ _ (by rfl) (by rfl) karr (by kernel_rfl) size64 zero64_size karr_size karr_one ?_; intro w1 h1 hu1))))
  refine bodyPost_ret (results_cell_row (by rfl) _ _ _ _ _ _ _ (by rfl) h1 Try.underlying78 (by rfl) size64) rfl ⟨rfl, ((Below.refl _ _).alloc (Nat.le_refl _) _).upd hu1 (Nat.le_refl _)⟩
/-- What holds ahead of each block of the padded rest. -/
def PadRel (w : World) (H K : Nat) (l : List UInt8) (v : Value) (wr : World) : Prop :=
  ∃ (j : Nat) (M : List UInt8) (A' : Option Addr) (c' : Nat), 64 * j ≤ (Sha.pad l).length ∧ M = (Sha.pad l).drop (64 * j) ∧ M.length ≤ c' ∧ c' ≤ maxLen ∧ v = .slice A' M.length c' ∧ Bytes wr A' M ∧ (∀ ad, A' = some ad → K < ad.block) ∧ SInv 77 w wr H K (Sha.blks (Sha.pad l) Sha.init j)
set_option maxHeartbeats 1000000 in
set_option maxRecDepth 100000 in
theorem sum_any (A : Option Addr) (c : Nat) (l : List UInt8) (hc : l.length ≤ c) (hc2 : l.length ≤ 140737488351232 ∧ c ≤ 9223372036854775807) (w : World) (hb : Bytes w A l) :
    Calls Try.prog 25 #[.slice A l.length c] w fun e w' => e = .returned (.agg ((Sha.sum l).map u8v).toArray) ∧ Below w.heap.size w w' := by
  have a64 := alloc64
  have a16 := alloc16
  have hz8 : Blk ((w.alloc (.cells zero16 57)).alloc (.cells #[.int .u32 0, .int .u32 0, .int .u32 0, .int .u32 0, .int .u32 0, .int .u32 0, .int .u32 0, .int .u32 0] 77)) (w.heap.size + 1) 77 zero8 := Blk.new' _ _ _ (by simp)
  have hz16 : Blk ((w.alloc (.cells zero16 57)).alloc (.cells #[.int .u32 0, .int .u32 0, .int .u32 0, .int .u32 0, .int .u32 0, .int .u32 0, .int .u32 0, .int .u32 0] 77)) w.heap.size 57 zero16 := (Blk.new _ _ _).alloc _
  have hbz : Below w.heap.size w ((w.alloc (.cells zero16 57)).alloc (.cells #[.int .u32 0, .int .u32 0, .int .u32 0, .int .u32 0, .int .u32 0, .int .u32 0, .int .u32 0, .int .u32 0] 77)) := ((Below.refl _ _).alloc (Nat.le_refl _) _).alloc (by simp) _
  go_enter Try.func25, Try.ntmps25
  go_wp2_with (first
    | (show wpList _ _ _ ((⟨some 11, .build _ _, _, _, _, _⟩ : Oper) :: _) _ _; refine wpList_run (o := ⟨some 11, .build _ _, _, _, _, _⟩) (.agg (st8 Sha.init)) (by rfl) (by kernel_rfl) ?_)
    | (show wpList _ _ _ ((⟨none, .store _ (.tmp 3) (.tmp 11), _, _, _, _⟩ : Oper) :: _) _ _; go_must (refine wpList_store_blk (o := ⟨none, _, _, _, _, _⟩) hz8 (by rfl) _ _ _ (by rfl) (by rfl) (st8 Sha.init) (by rfl) size8 zero8_size (st8_size _) (st8_one _) ?_; intro w1 h1 hu1; replace hz16 := hz16.upd hu1 (by omega); replace hbz := hbz.upd hu1 (by omega); clear hu1 hz8)))
  refine (constants_any _).mono ?_
  rintro e w2 ⟨rfl, hb2⟩
  have hlt2 := (h1.below hb2 h1.lt).lt
  have hk64 := Blk.new w2 78 zero64
  replace h1 := (h1.below hb2 h1.lt).alloc (.cells zero64 78)
  replace hz16 := (hz16.below hb2 hz16.lt).alloc (.cells zero64 78)
  replace hbz := (hbz.trans (hb2.mono hbz.size)).alloc (by omega) (.cells zero64 78)
  go_wp2_with (show wpList _ _ _ ((⟨none, .store _ (.tmp 4) (.tmp 12), _, _, _, _⟩ : Oper) :: _) _ _; go_must (refine wpList_store_blk (o := ⟨none, _, _, _, _, _⟩) hk64 (by rfl) _ _ _ (by rfl) (by rfl) karr (by rfl) size64 zero64_size karr_size karr_one ?_; intro w3 h3 hu3; have hI : SInv 77 w w3 (w.heap.size + 1) w2.heap.size Sha.init := ⟨h1.upd hu3 (by omega), h3, hz16.upd hu3 (by omega), by omega, hlt2, hbz.upd hu3 (by omega)⟩; clear hu3 h1 hz16 hbz hk64 h3))
  clear hb2 hlt2
  generalize w2.heap.size = K at hI ⊢
  generalize hH : w.heap.size + 1 = H at hI ⊢
  clear hH
  go_loopw [0] (fun v wr => ∃ (t : Nat) (l' : List UInt8) (A' : Option Addr) (c' : Nat), 64 * t ≤ l.length ∧ l' = l.drop (64 * t) ∧ l'.length ≤ c' ∧ c' ≤ c ∧ v = .slice A' l'.length c' ∧ Bytes w A' l' ∧ SInv 77 w wr H K (Sha.blks l Sha.init t)) (fun v _ => lenOf v)
  case atStart => exact ⟨0, l, A, c, by omega, by simp, hc, Nat.le_refl _, rfl, hb, hI⟩
  case round =>
    clear hI
    obtain ⟨t, l', A', c', ht, hl', hc', hcc, rfl, hb', hI⟩ := hrel
    have HL := Lib.hid hl'
    have hlen : l'.length + 64 * t = l.length := by rw [hl']; simp; omega
    have HN := Lib.hid hlen
    clear hl' hlen
    by_cases h64 : 64 ≤ l'.length
    · obtain ⟨b, off, rfl, hbl, hcell⟩ := hb'.at_ (by omega)
      have HB := Lib.hid hb'; clear hb'
      have HC := Lib.hid hcell; clear hcell
      go_wp2
      have hst : ∀ w', Below wr.heap.size wr w' → Calls Try.prog 38 #[.agg (st8 (Sha.blks l Sha.init t)), .slice (some ⟨b, off, none⟩) l'.length c', .agg karr] w' fun e w'' => e = .returned (.agg (st8 (Sha.blk (Sha.blks l Sha.init t) l' 0))) ∧ Below wr.heap.size wr w'' := by
        intro w' hw'
        have hI' := hI.below hw'
        refine (block_any _ b off _ c' l' rfl h64 w' (by have := hI'.bel.size; omega) (fun j hj => ?_)).mono fun e w'' h => ⟨h.1, hw'.trans (h.2.mono hw'.size)⟩
        rw [hI'.bel.cell (p := ⟨b, off + j, none⟩) hbl]; exact HC.out j hj
      refine wp_region_mix (Below wr.heap.size wr) [1, 4, 5] [0, 2, 3] 6 [7] (by kernel_rfl) (by kernel_rfl) (fun c a a' w h q => ⟨h ▸ q.1, q.2⟩) (Below.refl _ _).drew ?_
      dsimp only [List.filterMap, List.getElem?_cons_zero, List.getElem?_cons_succ]
      repeat (go_big_quiet_step (fail))
      refine wpQuiet_nil ?_
      refine wpQuiet_load_blk (fun w' hw' => (hI.below hw').hh) (by rfl) _ _ (by rfl) (by rfl) _ Try.underlying77 (by rfl) size8 (st8_size _) ?_
      simp only [Act.put, List.setIfInBounds_toArray, List.set_cons_zero, List.set_cons_succ]
      refine wpQuiet_load_blk (fun w' hw' => (hI.below hw').kk) (by rfl) _ _ (by rfl) (by rfl) _ Try.underlying78 (by rfl) size64 karr_size ?_
      simp only [Act.put, List.setIfInBounds_toArray, List.set_cons_zero, List.set_cons_succ]
      refine wpQuiet_call Try.call38 (by rfl) _ _ (by rfl) _ (by rfl) _ hst ?_
      simp only [Act.put, List.setIfInBounds_toArray, List.set_cons_zero, List.set_cons_succ]
      refine wpQuiet_nil ?_
      intro w5 hw5
      replace hI := hI.below hw5
      clear hw5 hst
      go_wp2_with (show wpList _ _ _ ((⟨none, .store _ (.tmp 3) (.tmp 21), _, _, _, _⟩ : Oper) :: _) _ _; go_must (refine wpList_store_blk (o := ⟨none, _, _, _, _, _⟩) hI.hh (by rfl) _ _ _ (by rfl) (by rfl) (st8 (Sha.blk (Sha.blks l Sha.init t) l' 0)) (by rfl) size8 (st8_size _) (st8_size _) (st8_one _) ?_; intro w6 h6 hu6; have hI6 := hI.stored h6 hu6; clear hu6 hI h6))
      go_roundw
      case rel =>
        have hlen := HN.out
        refine ⟨t + 1, l'.drop 64, _, c' - 64, by omega, ?_, by simp; omega, by omega, ?_, HB.out.drop (k := 64) (cap := c') (by omega), ?_⟩
        · rw [HL.out, List.drop_drop]; congr 1
        · rw [List.length_drop]; rfl
        · have : Sha.blk (Sha.blks l Sha.init t) l' 0 = Sha.blks l Sha.init (t + 1) := by rw [HL.out, Sha.blk_drop]; rfl
          rw [← this]; exact hI6
      case measure => simp [lenOf]; omega
    · have hz : Sha.zeros l'.length = Sha.zeros l.length := by rw [← HN.out, Sha.zeros_add]
      have HZ := Lib.hid hz; clear hz
      have hb7 := Bytes.below hb' hI.bel
      clear hb'
      have hKlt := hI.kk.lt
      go_wp2_with (first
        | (show wpList _ _ _ ((⟨some 25, _, _, _, _, _⟩ : Oper) :: _) _ _; go_must (refine wpList_append_bytes (o := ⟨some 25, _, _, _, _, _⟩) (by rfl) _ _ _ (by rfl) (K + 1) _ Try.underlying27 u8info (.slice none 0 0) [] [] (by rfl) (OwnsC.nil _ _ _ _) A' c' l' (by rfl) hb7 (by simp; omega) hKlt ?_; intro v1 w7 sp1 ho1 hg1 ha1 hn1; replace hI := hI.grown hg1 (fun k hk => by simp [Value.ownBlock] at hk); clear hb7 hn1 hg1; replace ho1 := ho1.alloc (.cells #[.int .u8 128] 5); have hlit : Bytes (w7.alloc (.cells #[.int .u8 128] 5)) (some ⟨w7.heap.size, 0, none⟩) [128] := bytes_lit w7 _ [128]))
        | (show wpList _ _ _ ((⟨some 27, _, _, _, _, _⟩ : Oper) :: _) _ _; go_must (refine wpList_append_bytes (o := ⟨some 27, _, _, _, _, _⟩) (by rfl) _ _ _ (by rfl) (K + 1) _ Try.underlying27 u8info v1 ([] ++ l') sp1 (by rfl) ho1 (some ⟨w7.heap.size, 0, none⟩) 1 [128] (by rfl) hlit (by simp; omega) (by have := hI.kk.lt; simp; omega) ?_; intro v2 w8 sp2 ho2 hg2 _ _; replace hI := (hI.alloc (.cells #[.int .u8 128] 5)).grown hg2 (fun k hk => (OwnsC.lt ho1 k hk).1); clear hlit ho1 hg2 ha1)))
      have ho3 : OwnB 5 w8 (K + 1) v2 (l' ++ 128 :: List.replicate 0 0) sp2 := by simpa using ho2
      clear ho2
      go_loopw [6] (fun v wr => ∃ (i : Nat) (L sp : List UInt8), i ≤ Sha.zeros l.length ∧ L = l' ++ 128 :: List.replicate i 0 ∧ OwnB 5 wr (K + 1) v L sp ∧ SInv 77 w wr H K (Sha.blks l Sha.init t)) (fun v _ => 300 - lenOf v)
      case atStart => exact ⟨0, _, _, by omega, rfl, ho3, hI⟩
      case round =>
        clear hI ho3
        obtain ⟨i, L, sp, hi, hL, ho, hI⟩ := hrel
        obtain ⟨A2, c2, rfl, hc1, hc3, hr1, _⟩ := OwnsC.reads ho
        have hLlen : L.length = l'.length + 1 + i := by rw [hL]; simp; omega
        have HL2 := Lib.hid hL
        have HO := Lib.hid ho
        have hzl := Sha.zeros_lt l.length
        have hz := HZ.out
        have hl64 : l'.length < 64 := by omega
        by_cases hlt : i < Sha.zeros l.length
        · have ht1 : (((L.length : Nat) : Int) % 64 != 56) = true := by rw [bne_iff_ne]; have := Sha.zeros_not hl64 (by rw [hz]; exact hlt); rw [← hLlen] at this; omega
          have hKlt := hI.kk.lt
          have hLle : L.length ≤ 200 := by omega
          have HLl := Lib.hid hLlen
          clear hL hLlen hz hr1
          replace ho := ho.alloc (.cells #[.int .u8 0] 5)
          have hlit : Bytes (wr.alloc (.cells #[.int .u8 0] 5)) (some ⟨wr.heap.size, 0, none⟩) [0] := bytes_lit wr _ [0]
          go_wp2_with (show wpList _ _ _ ((⟨some 34, _, _, _, _, _⟩ : Oper) :: _) _ _; refine wpList_append_bytes (o := ⟨some 34, _, _, _, _, _⟩) (by rfl) _ _ _ (by rfl) (K + 1) _ Try.underlying27 u8info (.slice A2 L.length c2) L sp (by rfl) ho (some ⟨wr.heap.size, 0, none⟩) 1 [0] (by rfl) hlit (by simp; omega) (by simp; omega) ?_; intro v3 w9 sp3 ho3 hg3 _ _; have hI3 := (hI.alloc (.cells #[.int .u8 0] 5)).grown hg3 (fun k hk => (OwnsC.lt ho k hk).1); clear hlit ho hg3 hI)
          obtain ⟨A3, c3, rfl, _⟩ := OwnsC.reads ho3
          go_roundw
          case rel => exact ⟨i + 1, _, _, by omega, by rw [HL2.out]; simp [List.replicate_succ'], ho3, hI3⟩
          case measure => simp [lenOf]; omega
        · obtain rfl : i = Sha.zeros l.length := by omega
          have ht1 : (((L.length : Nat) : Int) % 64 != 56) = false := by
            have := Sha.zeros_is hl64
            rw [hz, ← hLlen] at this
            have h2 : ((L.length : Nat) : Int) % 64 = 56 := by omega
            rw [h2]; rfl
          have hLle : L.length ≤ 200 := by omega
          clear hL hLlen hz hr1
          go_wp2
          go_loopw [6, 7] (fun v i wr => ∃ (k : Nat) (sp : List UInt8) (E : List UInt8), k ≤ 8 ∧ i = .int .i64 (56 - 8 * (k : Int)) ∧ E = (Sha.eight (l.length * 8)).take k ∧ OwnB 5 wr (K + 1) v (L ++ E) sp ∧ SInv 77 w wr H K (Sha.blks l Sha.init t)) (fun _ i _ => (intOf i + 8).toNat)
          case atStart => exact ⟨0, _, [], by omega, by simp, rfl, by simpa using HO.out, hI⟩
          case round =>
            clear hI ho
            obtain ⟨k, sp, E, hk, rfl, hE, ho, hI⟩ := hrel
            by_cases hk8 : k < 8
            · have HE := Lib.hid hE
              obtain ⟨A3, c3, rfl, _, _, hr3, _⟩ := OwnsC.reads ho
              obtain ⟨x, hx⟩ : ∃ x, x = UInt8.ofNat (l.length * 8 / 2 ^ (56 - 8 * k) % 256) := ⟨_, rfl⟩
              have HX := Lib.hid hx
              have eb : ((l.length : Int) * 8 / 2 ^ (56 - 8 * k) % 256) = iu8 x := by rw [hx]; exact (iu8_ofNat_mod _).symm
              have hEl : (L ++ E).length = L.length + k := by rw [hE]; simp [Sha.eight_length]; omega
              obtain ⟨M, hM⟩ : ∃ M, M = L ++ E := ⟨_, rfl⟩
              rw [← hM] at ho hEl ⊢
              have HM := Lib.hid hM
              have hMle : M.length ≤ 208 := by omega
              have HEl := Lib.hid hEl
              have hKlt2 := hI.kk.lt
              have hlit : Bytes (wr.alloc (.cells #[.int .u8 (iu8 x)] 5)) (some ⟨wr.heap.size, 0, none⟩) [x] := bytes_lit wr _ [x]
              replace ho := OwnB.alloc ho (.cells #[.int .u8 (iu8 x)] 5)
              clear hE hx hEl hM hr3
              go_wp2_with (show wpList _ _ _ ((⟨some 47, _, _, _, _, _⟩ : Oper) :: _) _ _; refine wpList_append_bytes (o := ⟨some 47, _, _, _, _, _⟩) (by rfl) _ _ _ (by rfl) (K + 1) _ Try.underlying27 u8info (.slice A3 M.length c3) M sp (by rfl) ho (some ⟨wr.heap.size, 0, none⟩) 1 [x] (by rfl) hlit (by simp; omega) (by simp; omega) ?_; intro v3 w9 sp3 ho3 hg3 _ _; have hI3 := (hI.alloc (.cells #[.int .u8 (iu8 x)] 5)).grown hg3 (fun k hk => (OwnsC.lt ho k hk).1); clear hlit ho hg3 hI)
              go_roundw
              case rel => exact ⟨k + 1, sp3, E ++ [x], by omega, by go_num, by rw [HE.out, HX.out, Sha.eight_take _ _ hk8], by rw [HM.out, List.append_assoc] at ho3; exact ho3, hI3⟩
              case measure => simp [intOf]; omega
            · obtain rfl : k = 8 := by omega
              obtain ⟨A4, c4, rfl, hc4, hc5, hr4, _⟩ := OwnsC.reads ho
              have hge : ∀ ad, A4 = some ad → K < ad.block := fun ad hd => by
                have := (OwnsC.lt ho ad.block (by rw [hd]; rfl)).1
                omega
              have hM0 : L ++ E = (Sha.pad l).drop (64 * t) := by
                rw [hE, List.take_of_length_le (by rw [Sha.eight_length]; omega), HL2.out, HL.out, Sha.pad, Sha.tail, List.drop_append_of_le_length ht]
                simp
              have hS0 : Sha.blks l Sha.init t = Sha.blks (Sha.pad l) Sha.init t := (Sha.blks_append l _ _ t ht).symm
              rw [hS0] at hI
              have hr5 : Bytes wr A4 (L ++ E) := hr4
              obtain ⟨M, hM⟩ : ∃ M, M = L ++ E := ⟨_, rfl⟩
              rw [hM0] at hM
              rw [hM0, ← hM] at hr5
              rw [hM0, ← hM] at hc4 ⊢
              have HM := Lib.hid hM
              clear hr4 ho hE hM hM0 hS0
              go_wp2
              go_loopw [6] (fun v wr => PadRel w H K l v wr) (fun v _ => lenOf v)
              case atStart => exact ⟨t, M, A4, c4, by rw [Sha.pad_length]; omega, HM.out, hc4, hc5, rfl, hr5, hge, hI⟩
              case round =>
                clear hI hr5 hge
                obtain ⟨j, M, A5, c5, hj, hM, hc6, hc7, rfl, hb5, hge, hI⟩ := hrel
                have hMl : M.length + 64 * j = (Sha.pad l).length := by rw [hM, List.length_drop]; omega
                have hp := Sha.pad_mod l
                have hpl : (Sha.pad l).length ≤ 140737488351400 := by rw [Sha.pad_length]; omega
                by_cases hpos : 0 < M.length
                · have h64' : 64 ≤ M.length := by omega
                  obtain ⟨b, off, rfl, hbl, hcell⟩ := hb5.at_ hpos
                  have HM2 := Lib.hid hM
                  have HMl := Lib.hid hMl
                  have HB := Lib.hid hb5
                  have HG := Lib.hid hge
                  have HC := Lib.hid hcell
                  have hMle : M.length ≤ 140737488351400 := by omega
                  clear hM hMl hb5 hge hcell hp
                  go_wp2_with (first
                    | (show wpList _ _ _ ((⟨some 53, _, _, _, _, _⟩ : Oper) :: _) _ _; refine wpList_load_blk (o := ⟨some 53, _, _, _, _, _⟩) hI.hh (by rfl) _ _ (by rfl) (by rfl) _ Try.underlying77 (by rfl) size8 (st8_size _) ?_)
                    | (show wpList _ _ _ ((⟨some 55, _, _, _, _, _⟩ : Oper) :: _) _ _; refine wpList_load_blk (o := ⟨some 55, _, _, _, _, _⟩) hI.kk (by rfl) _ _ (by rfl) (by rfl) _ Try.underlying78 (by rfl) size64 karr_size ?_)
                    | fail)
                  refine (block_any _ b off _ c5 M rfl h64' _ hbl HC.out).mono ?_
                  rintro e w9 ⟨rfl, hb9⟩
                  replace hI := hI.below hb9
                  have hb6 := Bytes.below HB.out hb9
                  have HB6 := Lib.hid hb6
                  clear hb6
                  go_wp2_with (show wpList _ _ _ ((⟨none, .store _ (.tmp 3) (.tmp 56), _, _, _, _⟩ : Oper) :: _) _ _; refine wpList_store_blk (o := ⟨none, _, _, _, _, _⟩) hI.hh (by rfl) _ _ _ (by rfl) (by rfl) (st8 (Sha.blk (Sha.blks (Sha.pad l) Sha.init j) M 0)) (by rfl) size8 (st8_size _) (st8_size _) (st8_one _) ?_; intro w6 h6 hu6; have hI6 := hI.stored h6 hu6; have hb7 := HB6.out.upd hu6 (fun ad hd => by have h1 := HG.out ad hd; have h2 := hI.h2; omega); have HB7 := Lib.hid hb7; clear hb7 hu6 hI h6)
                  all_goals
                    go_roundw
                    case rel =>
                      have hlen := HMl.out
                      unfold PadRel
                      refine ⟨j + 1, M.drop 64, _, c5 - 64, by omega, ?_, by simp; omega, by omega, ?_, HB7.out.drop (k := 64) (cap := c5) (by omega), block_cut HG.out, ?_⟩
                      · rw [HM2.out, List.drop_drop]; congr 1
                      · rw [List.length_drop]; simp [Addr.add_lit, *]
                      · have : Sha.blk (Sha.blks (Sha.pad l) Sha.init j) M 0 = Sha.blks (Sha.pad l) Sha.init (j + 1) := by rw [HM2.out, Sha.blk_drop]; rfl
                        rw [← this]; exact hI6
                    case measure => simp [lenOf]; omega
                · have hM0 : M.length = 0 := by omega
                  have HS := Lib.hid (show j = (Sha.pad l).length / 64 by omega)
                  clear hM hMl hp hpl hb5 hge
                  obtain ⟨x, hx⟩ : ∃ x, x = Sha.blks (Sha.pad l) Sha.init j := ⟨_, rfl⟩
                  rw [← hx] at hI
                  have HX := Lib.hid (show Sha.sum l = Sha.out x by rw [hx, HS.out]; rfl)
                  clear hx
                  have hD : Blk (wr.alloc (.cells zero16 57)) wr.heap.size 57 (darr x 0) := (Blk.new _ _ _).sub (darr_zero x)
                  have hKD := hI.kk.lt
                  have hI2 := hI.alloc (.cells zero16 57)
                  go_wp2
                  generalize wr.heap.size = D at hD hKD ⊢
                  go_loopw [59] (fun v wr => ∃ i : Nat, i ≤ 4 ∧ v = .int .i64 i ∧ SInv 77 w wr H K x ∧ Blk wr D 57 (darr x i)) (fun v _ => 4 - (intOf v).toNat)
                  case atStart => exact ⟨0, by omega, rfl, hI2, hD⟩
                  case round =>
                    clear hI hI2 hD
                    obtain ⟨i, hi, rfl, hI, hD⟩ := hrel
                    by_cases hi4 : i < 4
                    · obtain ⟨y, hy⟩ : ∃ y, y = Sha.get x i := ⟨_, rfl⟩
                      have cy := (hI.hh.cell i).trans (st8_get x i (by omega))
                      rw [← hy] at cy
                      have HY := Lib.hid hy; clear hy
                      have b0 : iu32 y / 16777216 % 256 = iu8 (Sha.byte y 0) := byte_eq y 0
                      have b1 : iu32 y / 65536 % 256 = iu8 (Sha.byte y 1) := byte_eq y 1
                      have b2 : iu32 y / 256 % 256 = iu8 (Sha.byte y 2) := byte_eq y 2
                      have b3 : iu32 y % 256 = iu8 (Sha.byte y 3) := by have := byte_eq y 3; simpa using this
                      have d0 := (hD.cell (4 * i)).trans (arr_at _ (show 4 * i < 16 by omega))
                      have d1 := (hD.cell (4 * i + 1)).trans (arr_at _ (show 4 * i + 1 < 16 by omega))
                      have d2 := (hD.cell (4 * i + 2)).trans (arr_at _ (show 4 * i + 2 < 16 by omega))
                      have d3 := (hD.cell (4 * i + 3)).trans (arr_at _ (show 4 * i + 3 < 16 by omega))
                      have f0 := hD.frozen (4 * i)
                      have f1 := hD.frozen (4 * i + 1)
                      have f2 := hD.frozen (4 * i + 2)
                      have f3 := hD.frozen (4 * i + 3)
                      go_wp2
                      go_roundw
                      case rel =>
                        refine ⟨i + 1, by omega, by go_num, ?_, ?_⟩
                        · exact (((hI.off hKD _).off hKD _).off hKD _).off hKD _
                        · have h1 := (((hD.set_ (4 * i) (.int .u8 (iu8 (Sha.byte y 0)))).set_ (4 * i + 1) (.int .u8 (iu8 (Sha.byte y 1)))).set_ (4 * i + 2) (.int .u8 (iu8 (Sha.byte y 2)))).set_ (4 * i + 3) (.int .u8 (iu8 (Sha.byte y 3)))
                          rw [darr_set x i y HY.out] at h1
                          exact h1
                      case measure => simp [intOf]; omega
                    · obtain rfl : i = 4 := by omega
                      rw [darr_all] at hD
                      go_wp2_with (first
                        | (show wpList _ _ _ ((⟨some 91, _, _, _, _, _⟩ : Oper) :: _) _ _; refine wpList_load_blk (o := ⟨some 91, _, _, _, _, _⟩) hD (by rfl) _ _ (by rfl) (by rfl) _ Try.underlying57 (by rfl) size16 (by simp [Sha.out]) ?_)
                        | (show wpList _ _ _ ((⟨none, .store _ (.tmp 2) (.tmp 91), _, _, _, _⟩ : Oper) :: _) _ _; refine wpList_store_blk (o := ⟨none, _, _, _, _, _⟩) hI.rr (by rfl) _ _ _ (by rfl) (by rfl) ((Sha.out x).map u8v).toArray (by rfl) size16 (arr_size _ _) (by simp [Sha.out]) (u8_all _) ?_; intro w6 h6 hu6; have hbel := hI.bel.upd hu6 (Nat.le_refl _); clear hu6 hI hD))
                      refine bodyPost_ret (results_cell_row (by rfl) _ _ _ _ _ _ _ (by rfl) h6 Try.underlying57 (by rfl) (size16.trans (by simp [Sha.out]))) rfl ⟨?_, hbel⟩
                      rw [HX.out]
end Go.Proofs.Ytekdcjaljjlemaa

/- A header's bytes, as the program lays them. Conditions: the numbers of four bytes are from 0 on and below 2^32, the others below 2^64. -/
namespace Go.Proofs.Ytekdcjaljjlemaa
open Go.RowKit
def zero256 : Array Value := arr 256 fun _ => .int .u8 0
theorem size256 : (Try.prog.info? 55).map (·.size) = some 256 := by kernel_rfl
theorem alloc256 (w : World) : (zeroValue 55).run Try.prog w = .ok (.agg zero256) w := by
  have h : (Try.prog.info? 55).map (fun i => (i.zero, i.size)) = some (some (.agg zero256), 256) := by kernel_rfl
  exact (zero_of_info h).1 w
/-- A list of 256 bytes of which the first are these, the others noughts. -/
def fill (P : List UInt8) : List UInt8 := P ++ List.replicate (256 - P.length) 0
theorem fill_length (P : List UInt8) (h : P.length ≤ 256) : (fill P).length = 256 := by unfold fill; rw [List.length_append, List.length_replicate]; omega
theorem fill_copy (P l : List UInt8) (h : P.length + l.length ≤ 256) : (fill P).take P.length ++ (l ++ (fill P).drop (P.length + l.length)) = fill (P ++ l) := by
  unfold fill
  rw [List.take_left, List.drop_append, List.drop_of_length_le (by omega), List.nil_append, List.drop_replicate, List.length_append, List.append_assoc]
  congr 3
  omega
theorem fill_four (P l : List UInt8) (n : Nat) (hl : l.length = n) (h : P.length + n ≤ 256) : P ++ (l ++ (List.replicate (256 - P.length) (0 : UInt8)).drop n) = fill (P ++ l) := by
  unfold fill
  rw [List.drop_replicate, List.length_append, List.append_assoc, hl]
  congr 3
  omega
theorem fill_snoc (P : List UInt8) (b : UInt8) (h : P.length < 256) : (fill P).set P.length b = fill (P ++ [b]) := by
  unfold fill
  rw [List.set_append_right _ _ (Nat.le_refl _), Nat.sub_self, List.length_append, List.append_assoc]
  congr 1
  obtain ⟨n, hn⟩ : ∃ n, 256 - P.length = n + 1 := ⟨255 - P.length, by omega⟩
  rw [hn, List.replicate_succ, List.set_cons_zero, show 256 - (P.length + [b].length) = n by simp; omega]
  rfl
theorem fill_zero : List.replicate 256 (0 : UInt8) = fill (List.replicate 16 0) := by unfold fill; rw [List.length_replicate, List.replicate_append_replicate]
theorem arr_const' (n : Nat) (v : Value) : arr n (fun _ => v) = (List.replicate n v).toArray := by
  apply Array.ext_getElem?; intro i
  rw [arr_get, List.getElem?_toArray, List.getElem?_replicate]
theorem zero256_list : zero256 = ((fill (List.replicate 16 0)).map u8v).toArray := by
  rw [← fill_zero, List.map_replicate]; exact arr_const' 256 _
theorem set_u8 (L : List UInt8) (i : Nat) (b : UInt8) : ((L.map u8v).toArray).setIfInBounds i (.int .u8 (iu8 b)) = ((L.set i b).map u8v).toArray := by simp [List.map_set, u8v]
def thirteen : List Nat := [0, 1, 2, 3, 4, 5, 6, 7, 8, 11, 12, 14, 15]
def Hd.nat (f : HdF) : Prop := ∀ i ∈ thirteen, 0 ≤ f i ∧ f i < 4294967296
/-- What the call's own blocks hold: the header in its box, the seal in its, the result's noughts, the bytes so far. -/
structure HInv (w0 : World) (s0 : Nat) (f : HdF) (s L : List UInt8) (wr : World) : Prop where
  box : Blk wr s0 26 (hdc f)
  sl : Blk wr (s0 + 1) 57 (s.map u8v).toArray
  res : Blk wr (s0 + 1 + 1) 55 zero256
  raw : Blk wr (s0 + 1 + 1 + 1) 55 (L.map u8v).toArray
  bel : Below s0 w0 wr
theorem HInv.upd {w0 : World} {s0 : Nat} {f : HdF} {s L L' : List UInt8} {wr w' : World} (h : HInv w0 s0 f s L wr) (u : Upd (s0 + 1 + 1 + 1) wr w') (hg : Blk w' (s0 + 1 + 1 + 1) 55 (L'.map u8v).toArray) : HInv w0 s0 f s L' w' :=
  ⟨h.box.upd u (by omega), h.sl.upd u (by omega), h.res.upd u (by omega), hg, h.bel.upd u (by omega)⟩
theorem HInv.below {w0 : World} {s0 : Nat} {f : HdF} {s L : List UInt8} {wr w' : World} (h : HInv w0 s0 f s L wr) (hb : Below wr.heap.size wr w') : HInv w0 s0 f s L w' :=
  ⟨keep hb h.box, keep hb h.sl, keep hb h.res, keep hb h.raw, h.bel.trans (hb.mono (by have := h.box.lt; omega))⟩
theorem HInv.drew {w0 : World} {s0 : Nat} {f : HdF} {s L : List UInt8} {wr : World} (h : HInv w0 s0 f s L wr) : HInv w0 s0 f s L wr.drew := ⟨h.box, h.sl, h.res, h.raw, h.bel.drew⟩
instance {w0 : World} {s0 : Nat} {f : HdF} {s L : List UInt8} {w w' : World} : KeepsTo w w' (HInv w0 s0 f s L w) (HInv w0 s0 f s L w') := ⟨fun hb h => h.below hb⟩
theorem hfour_fill (g hb n len pb m : Nat) (t : TypeId) (f : HdF) (P : List UInt8) (idx : List Nat) (hn : P.length = n) (hm : idx.length = m) (h4 : n + len = 256) (hl : 4 * m ≤ len) (w : World) (hg : Blk w g t ((fill P).map u8v).toArray)
    (hp : Blk w pb t (pts hb idx) ∨ ∃ t', Blk w pb t' (pts hb idx)) (hbx : Blk w hb 26 (hdc f)) (hf : Hd.nat f) (hi : ∀ i ∈ idx, i ∈ thirteen) (hne : pb ≠ g ∧ hb ≠ g) :
    Calls Try.prog 35 #[.slice (some ⟨g, n, none⟩) len len, .slice (some ⟨pb, 0, none⟩) m m] w fun e w' =>
      e = .returned (.tuple #[]) ∧ Blk w' g t ((fill (P ++ four_ f idx)).map u8v).toArray ∧ Upd g w w' := by
  subst hn hm
  have hp' : ∀ j, j < idx.length → w.cell? ⟨pb, 0 + j, none⟩ = some (.pointer (some ⟨hb, idx.getD j 0, none⟩)) := fun j hj => by
    have hc : (pts hb idx)[0 + j]? = some (.pointer (some ⟨hb, idx.getD j 0, none⟩)) := by
      rw [Nat.zero_add]; unfold pts
      rw [List.getElem?_toArray, List.getElem?_map, List.getElem?_eq_getElem hj, List.getD_eq_getElem?_getD, List.getElem?_eq_getElem hj]; rfl
    rcases hp with h | ⟨t', h⟩
    · exact h.at_ _ hc
    · exact h.at_ _ hc
  have hmem : ∀ j, j < idx.length → idx.getD j 0 ∈ thirteen := fun j hj => by
    rw [List.getD_eq_getElem?_getD, List.getElem?_eq_getElem hj]; exact hi _ (List.getElem_mem hj)
  have h13 : ∀ i ∈ thirteen, i < 16 ∧ i ≠ 9 ∧ i ≠ 10 ∧ i ≠ 13 := by decide
  refine (hfour_any g len len hb t f P (List.replicate (256 - P.length) 0) idx pb 0 idx.length hl (by rw [List.length_replicate]; omega) (by omega) w hg hp' (fun j hj => ?_) hne).mono ?_
  · have hm := hmem j hj
    obtain ⟨h1, h2, h3, h5⟩ := h13 _ hm
    exact ⟨hbx.at_ _ (hdc_at f _ h1 h2 h3 h5), hf _ hm⟩
  · rintro e w' ⟨he, hg', hu⟩
    refine ⟨he, ?_, hu⟩
    rw [fill_four P (four_ f idx) (4 * idx.length) (four_length f idx) (by omega)] at hg'
    exact hg'
def TimeRel (w0 : World) (s0 : Nat) (f : HdF) (s P : List UInt8) (T g1 : Nat) (v : Value) (wr : World) : Prop :=
  ∃ j : Nat, j ≤ 8 ∧ v = .int .i64 (j : Int) ∧ HInv w0 s0 f s (fill (P ++ (le8 T).take j)) wr ∧ Blk wr (g1 + 1 + 1) 62 (pts s0 [14, 15])
theorem time_step (P : List UInt8) (T j : Nat) (hP : P.length = 92) (hj : j < 8) (b : UInt8) (hb : b = b8 T j) : (fill (P ++ (le8 T).take j)).set (92 + j) b = fill (P ++ (le8 T).take (j + 1)) := by
  subst hb
  have hl : (P ++ (le8 T).take j).length = 92 + j := by rw [List.length_append, List.length_take, le8_length]; omega
  have h := fill_snoc (P ++ (le8 T).take j) (b8 T j) (by omega)
  rw [hl] at h
  rw [h, List.append_assoc, List.take_succ_eq_append_getElem (by rw [le8_length]; omega)]
  congr 4
  have : j = 0 ∨ j = 1 ∨ j = 2 ∨ j = 3 ∨ j = 4 ∨ j = 5 ∨ j = 6 ∨ j = 7 := by omega
  rcases this with rfl | rfl | rfl | rfl | rfl | rfl | rfl | rfl <;> simp [le8_b8]
set_option maxRecDepth 100000 in
set_option maxHeartbeats 4000000 in
theorem hlaid_any (f : HdF) (s : List UInt8) (hs : s.length = 16) (hf : Hd.nat f) (hin : Hd.in_ f) (w : World) :
    Calls Try.prog 24 #[.agg (hdc f), .agg (s.map u8v).toArray] w fun e w' => e = .returned (.agg ((List.replicate 16 0 ++ Hd.rest f s).map u8v).toArray) ∧ Below w.heap.size w w' := by
  have a256 := alloc256
  obtain ⟨s0, hs0⟩ : ∃ s0, s0 = w.heap.size := ⟨_, rfl⟩
  have hI : HInv w s0 f s (fill (List.replicate 16 0)) ((((w.alloc (.cells (hdc f) 26)).alloc (.cells (s.map u8v).toArray 57)).alloc (.cells zero256 55)).alloc (.cells zero256 55)) := by
    subst hs0
    refine ⟨(((Blk.new _ _ _).alloc _).alloc _).alloc _, ((Blk.new' _ _ _ (by simp)).alloc _).alloc _, (Blk.new' _ _ _ (by simp)).alloc _, ?_, ((((Below.refl _ _).alloc (Nat.le_refl _) _).alloc (by simp) _).alloc (by simp; omega) _).alloc (by simp; omega) _⟩
    have := Blk.new' (((w.alloc (.cells (hdc f) 26)).alloc (.cells (s.map u8v).toArray 57)).alloc (.cells zero256 55)) 55 zero256 (n := w.heap.size + 1 + 1 + 1) (by simp)
    exact this.sub zero256_list
  go_enter Try.func24, Try.ntmps24
  go_wp2_with fail
  rw [← hs0]
  have HS0 := Lib.hid hs0
  clear hs0
  generalize (((w.alloc (.cells (hdc f) 26)).alloc (.cells (s.map u8v).toArray 57)).alloc (.cells zero256 55)).alloc (.cells zero256 55) = w1 at hI ⊢
  clear a256
  refine wp_region_planT (fun _ => True) [2] [(true, 0), (true, 1), (false, 2)] (by kernel_rfl) (by kernel_rfl) (trivial) ?_
  refine wpPlan_pure [0, 1] [(false, 2)] _ (by rfl) (by rfl) ?_
  dsimp only [List.filterMap, List.getElem?_cons_zero, List.getElem?_cons_succ]
  repeat (go_big_quiet_step (fail))
  refine wpQuiet_nil ?_
  refine wpPlan_forceL _ rfl ?_
  refine wpList_copy_at (by rfl) _ _ _ _ (by rfl) 5 Try.underlying27 size1 (s0 + 1 + 1 + 1) 16 240 240 (some ⟨s0 + 1, 0, none⟩) 16 16 (by rfl) (by rfl) _ s _ hI.drew.raw hs hI.drew.sl.bytes (by rw [fill_length _ (by simp), hs]; omega) (by omega) ?_
  intro w2 hg2 hu2
  have hI2 := hI.drew.upd hu2 hg2
  rw [show (fill (List.replicate 16 0)).take 16 ++ (s ++ (fill (List.replicate 16 0)).drop (16 + s.length)) = fill (List.replicate 16 0 ++ s) from fill_copy (List.replicate 16 0) s (by rw [List.length_replicate, hs]; omega)] at hI2
  clear hg2 hu2 hI
  have hP : (List.replicate 16 (0 : UInt8) ++ s).length = 32 := by rw [List.length_append, List.length_replicate, hs]
  have HREST : Hid (List.replicate 16 (0 : UInt8) ++ Hd.rest f s = (List.replicate 16 0 ++ s) ++ (Hd.mid f ++ List.replicate 148 0)) := Lib.hid (by unfold Hd.rest; rw [List.append_assoc])
  generalize List.replicate 16 (0 : UInt8) ++ s = P at hI2 hP HREST
  refine wpList_nil ?_
  refine PlanQ.out (by rfl) ?_
  refine wpPlan_tidy ?_
  simp only [Act.put, List.setIfInBounds_toArray, List.set_cons_zero, List.set_cons_succ]
  go_wp2_with fail
  refine (numbers_any s0 w2).mono ?_
  rintro e w3 ⟨rfl, hbx⟩
  (replace hI2 := keep hbx hI2; clear hbx)
  have b1 := Blk.new w3 61 (pts s0 [0, 1, 2, 3, 4, 5, 6, 7, 8])
  have b2 := Blk.new (w3.alloc (.cells (pts s0 [0, 1, 2, 3, 4, 5, 6, 7, 8]) 61)) 62 (pts s0 [11, 12])
  have b3 := Blk.new ((w3.alloc (.cells (pts s0 [0, 1, 2, 3, 4, 5, 6, 7, 8]) 61)).alloc (.cells (pts s0 [11, 12]) 62)) 62 (pts s0 [14, 15])
  replace b1 := (b1.alloc (.cells (pts s0 [11, 12]) 62)).alloc (.cells (pts s0 [14, 15]) 62)
  replace b2 := b2.alloc (.cells (pts s0 [14, 15]) 62)
  rw [show (w3.alloc (.cells (pts s0 [0, 1, 2, 3, 4, 5, 6, 7, 8]) 61)).heap.size = w3.heap.size + 1 by simp] at b2
  rw [show ((w3.alloc (.cells (pts s0 [0, 1, 2, 3, 4, 5, 6, 7, 8]) 61)).alloc (.cells (pts s0 [11, 12]) 62)).heap.size = w3.heap.size + 1 + 1 by simp] at b3
  have hB2 := (((Below.refl w3.heap.size w3).alloc (Nat.le_refl _) (.cells (pts s0 [0, 1, 2, 3, 4, 5, 6, 7, 8]) 61)).alloc (by simp) (.cells (pts s0 [11, 12]) 62)).alloc (by simp; omega) (.cells (pts s0 [14, 15]) 62)
  have hI3 := hI2.below hB2
  have hlt3 := hI2.raw.lt
  have H2 := Lib.hid (And.intro b1 (And.intro b2 (And.intro b3 (And.intro hI3 hlt3))))
  clear b1 b2 b3 hI2 hI3 hB2 hlt3
  simp only [pts, pt, List.map_cons, List.map_nil] at H2 ⊢
  go_wp2_with fail
  obtain ⟨b1, b2, b3, hI3, hlt3⟩ := H2.out
  clear H2
  generalize ((w3.alloc _).alloc _).alloc _ = w4 at b1 b2 b3 hI3 ⊢
  generalize w3.heap.size = g1 at b1 b2 b3 hlt3 ⊢
  refine wp_region_planT (fun w' => w' = w4.drew) [2] [(true, 0), (true, 1), (false, 2)] (by kernel_rfl) (by kernel_rfl) (rfl) ?_
  refine wpPlan_pure [0, 1] [(false, 2)] _ (by rfl) (by rfl) ?_
  dsimp only [List.filterMap, List.getElem?_cons_zero, List.getElem?_cons_succ]
  repeat (go_big_quiet_step (fail))
  refine wpQuiet_nil ?_
  refine wpPlan_forceL _ rfl ?_
  go_wp2_with fail
  refine (hfour_fill (s0 + 1 + 1 + 1) s0 32 224 g1 9 55 f P [0, 1, 2, 3, 4, 5, 6, 7, 8] hP rfl rfl (by omega) w4.drew hI3.drew.raw (.inr ⟨_, b1.drew⟩) hI3.drew.box hf (by decide) (by omega)).mono ?_
  rintro e w5 ⟨rfl, hg5, hu5⟩
  have hI5 := hI3.drew.upd hu5 hg5
  replace b2 := b2.drew.upd hu5 (by omega)
  replace b3 := b3.drew.upd hu5 (by omega)
  clear b1 hg5 hu5 hI3
  obtain ⟨P5, hP5⟩ : ∃ P5, P5 = P ++ four_ f [0, 1, 2, 3, 4, 5, 6, 7, 8] := ⟨_, rfl⟩
  have hl5 : P5.length = 68 := by rw [hP5, List.length_append, hP, four_length]; rfl
  rw [← hP5] at hI5
  have HP5 := Lib.hid hP5
  clear hP5
  go_wp2_with fail
  refine PlanQ.out (by rfl) ?_
  refine wpPlan_tidy ?_
  obtain ⟨hi, hhi⟩ : ∃ n : Nat, f 9 = (n : Int) := ⟨(f 9).toNat, by have := hin.1; omega⟩
  obtain ⟨lo, hlo⟩ : ∃ n : Nat, f 10 = (n : Int) := ⟨(f 10).toNat, by have := hin.2.2.1; omega⟩
  obtain ⟨T, hT⟩ : ∃ n : Nat, f 13 = (n : Int) := ⟨(f 13).toNat, by have := hin.2.2.2.2.1; omega⟩
  have d9 : w5.cell? ⟨s0, 9, none⟩ = some (.int .u64 (hi : Nat)) := (hI5.box.at_ 9 (hdc_u f 9 (by omega))).trans (by rw [hhi])
  have d10 : w5.cell? ⟨s0, 9 + 1, none⟩ = some (.int .u64 (lo : Nat)) := (hI5.box.at_ 10 (hdc_u f 10 (by omega))).trans (by rw [hlo])
  have HN := Lib.hid (And.intro hhi (And.intro hlo hT))
  have HF := Lib.hid (And.intro hf hin)
  clear hhi hlo hT hf hin
  go_wp2_with (first
    | (show wpList _ _ _ ((⟨some 23, _, _, _, _, _⟩ : Oper) :: _) _ _; refine wpList_load_mid (o := ⟨some 23, _, _, _, _, _⟩) (range2 (b := s0) (off := 9) (u := .int .u64 (hi : Nat)) (v := .int .u64 (lo : Nat)) (d9) (d10)) (by rfl) _ _ (by rfl) (by rfl) _ Try.underlying24 (by rfl) sizeU (by rfl) ?_)
    | fail)
  refine (id_any hi lo w5).mono ?_
  rintro e w6 ⟨rfl, hbx⟩
  (replace hI5 := keep hbx hI5; replace b2 := keep hbx b2; replace b3 := keep hbx b3; clear hbx d9 d10)
  rw [idv_all]
  have hid : (le8 lo ++ le8 hi).length = 16 := rfl
  obtain ⟨S, hS⟩ : ∃ S, S = le8 lo ++ le8 hi := ⟨_, rfl⟩
  rw [← hS] at hid ⊢
  have HS := Lib.hid hS
  clear hS
  have a16 := alloc16
  go_wp2_with (first
    | (show wpList _ _ _ ((⟨none, _, _, _, _, _⟩ : Oper) :: _) _ _; refine wpList_store_blk (o := ⟨none, _, _, _, _, _⟩) (Blk.new w6 57 zero16) (by rfl) _ _ _ (by rfl) (by rfl) (S.map u8v).toArray (by rfl) size16 (arr_size _ _) (by simp [hid]) (u8_all _) ?_; intro w7 h7 hux; have hbx := ((Below.refl _ _).alloc (Nat.le_refl _) (.cells zero16 57)).upd hux (Nat.le_refl w6.heap.size); replace hI5 := keep hbx hI5; replace b2 := keep hbx b2; replace b3 := keep hbx b3; clear hux hbx)
    | fail)
  clear a16
  simp only [Act.put]
  refine wp_region_planT (fun _ => True) [2] [(true, 0), (true, 1), (false, 2)] (by kernel_rfl) (by kernel_rfl) (trivial) ?_
  refine wpPlan_pure [0, 1] [(false, 2)] _ (by rfl) (by rfl) ?_
  dsimp only [List.filterMap, List.getElem?_cons_zero, List.getElem?_cons_succ]
  repeat (go_big_quiet_step (fail))
  refine wpQuiet_nil ?_
  refine wpPlan_forceL _ rfl ?_
  refine wpList_copy_at (by rfl) _ _ _ _ (by rfl) 5 Try.underlying27 size1 (s0 + 1 + 1 + 1) 68 188 188 (some ⟨w6.heap.size, 0, none⟩) 16 16 (by rfl) (by rfl) _ S _ hI5.drew.raw hid h7.drew.bytes (by rw [fill_length _ (by omega), hid]; omega) (by omega) ?_
  intro w8 hg8 hu8
  have hI8 := hI5.drew.upd hu8 hg8
  replace b2 := b2.drew.upd hu8 (by omega)
  replace b3 := b3.drew.upd hu8 (by omega)
  rw [show (fill P5).take 68 ++ (S ++ (fill P5).drop (68 + S.length)) = fill (P5 ++ S) by rw [← hl5]; exact fill_copy P5 S (by omega)] at hI8
  clear hg8 hu8 hI5 h7
  obtain ⟨P8, hP8⟩ : ∃ P8, P8 = P5 ++ S := ⟨_, rfl⟩
  have hl8 : P8.length = 84 := by rw [hP8, List.length_append, hl5, hid]
  rw [← hP8] at hI8
  have HP8 := Lib.hid hP8
  clear hP8 hid
  refine wpList_nil ?_
  refine PlanQ.out (by rfl) ?_
  refine wpPlan_tidy ?_
  simp only [Act.put, List.setIfInBounds_toArray, List.set_cons_zero, List.set_cons_succ]
  go_wp2_with fail
  refine wp_region_planT (fun w' => w' = w8.drew) [2] [(true, 0), (true, 1), (false, 2)] (by kernel_rfl) (by kernel_rfl) (rfl) ?_
  refine wpPlan_pure [0, 1] [(false, 2)] _ (by rfl) (by rfl) ?_
  dsimp only [List.filterMap, List.getElem?_cons_zero, List.getElem?_cons_succ]
  repeat (go_big_quiet_step (fail))
  refine wpQuiet_nil ?_
  refine wpPlan_forceL _ rfl ?_
  go_wp2_with fail
  refine (hfour_fill (s0 + 1 + 1 + 1) s0 84 172 (g1 + 1) 2 55 f P8 [11, 12] hl8 rfl rfl (by omega) w8.drew hI8.drew.raw (.inr ⟨_, b2.drew⟩) hI8.drew.box HF.out.1 (by decide) (by omega)).mono ?_
  rintro e w9 ⟨rfl, hg9, hu9⟩
  have hI9 := hI8.drew.upd hu9 hg9
  replace b3 := b3.drew.upd hu9 (by omega)
  clear b2 hg9 hu9 hI8
  obtain ⟨P9, hP9⟩ : ∃ P9, P9 = P8 ++ four_ f [11, 12] := ⟨_, rfl⟩
  have hl9 : P9.length = 92 := by rw [hP9, List.length_append, hl8, four_length]; rfl
  rw [← hP9] at hI9
  have HP9 := Lib.hid hP9
  clear hP9
  go_wp2_with fail
  refine PlanQ.out (by rfl) ?_
  refine wpPlan_tidy ?_
  go_wp2_with fail
  go_loopw [31] (fun v wr => TimeRel w s0 f s P9 T g1 v wr) (fun v _ => 8 - (intOf v).toNat)
  case atStart => exact ⟨0, by omega, rfl, by simpa using hI9, b3⟩
  case round =>
    obtain ⟨j, hj, rfl, hIj, hbj⟩ := hrel
    clear hI9 b3
    by_cases hlt : j < 8
    · have d13 : wr.cell? ⟨s0, 13, none⟩ = some (.int .u64 (T : Nat)) := (hIj.box.at_ 13 (hdc_u f 13 (by omega))).trans (by rw [HN.out.2.2])
      have fz := hIj.raw.frozen (92 + j)
      have hst := time_step P9 T j hl9 hlt _ rfl
      have HX : Hid (HInv w s0 f s (fill (P9 ++ (le8 T).take (j + 1))) (wr.setCell ⟨s0 + 1 + 1 + 1, 92 + j, none⟩ (.int .u8 (iu8 (b8 T j)))) ∧ Blk (wr.setCell ⟨s0 + 1 + 1 + 1, 92 + j, none⟩ (.int .u8 (iu8 (b8 T j)))) (g1 + 1 + 1) 62 (pts s0 [14, 15])) :=
        Lib.hid ⟨hIj.upd ((Upd.refl _ _).set _ _) ((hIj.raw.set_ (92 + j) (.int .u8 (iu8 (b8 T j)))).sub (by rw [set_u8, hst])), hbj.off (by omega) _⟩
      have dz : ∃ v, wr.cell? ⟨s0 + 1 + 1 + 1, 92 + j, none⟩ = some v := ⟨_, hIj.raw.at_ (92 + j) (by rw [List.getElem?_toArray, List.getElem?_map, List.getElem?_eq_getElem (by rw [fill_length _ (by rw [List.length_append, List.length_take, le8_length]; omega)]; omega)]; rfl)⟩
      obtain ⟨v, dz⟩ := dz
      clear hst hIj hbj
      have hcase : j = 0 ∨ j = 1 ∨ j = 2 ∨ j = 3 ∨ j = 4 ∨ j = 5 ∨ j = 6 ∨ j = 7 := by omega
      rcases hcase with rfl | rfl | rfl | rfl | rfl | rfl | rfl | rfl
      · go_wp2
        rw [b8_0]
        exact ⟨⟨1, by omega, rfl, HX.out⟩, by simp [intOf]⟩
      · go_wp2
        rw [b8_1]
        exact ⟨⟨2, by omega, rfl, HX.out⟩, by simp [intOf]⟩
      · go_wp2
        rw [b8_2]
        exact ⟨⟨3, by omega, rfl, HX.out⟩, by simp [intOf]⟩
      · go_wp2
        rw [b8_3]
        exact ⟨⟨4, by omega, rfl, HX.out⟩, by simp [intOf]⟩
      · go_wp2
        rw [b8_4]
        exact ⟨⟨5, by omega, rfl, HX.out⟩, by simp [intOf]⟩
      · go_wp2
        rw [b8_5]
        exact ⟨⟨6, by omega, rfl, HX.out⟩, by simp [intOf]⟩
      · go_wp2
        rw [b8_6]
        exact ⟨⟨7, by omega, rfl, HX.out⟩, by simp [intOf]⟩
      · go_wp2
        rw [b8_7]
        exact ⟨⟨8, by omega, rfl, HX.out⟩, by simp [intOf]⟩
    · obtain rfl : j = 8 := by omega
      rw [show (le8 T).take 8 = le8 T from rfl] at hIj
      obtain ⟨P10, hP10⟩ : ∃ P10, P10 = P9 ++ le8 T := ⟨_, rfl⟩
      have hl10 : P10.length = 100 := by rw [hP10, List.length_append, hl9, le8_length]
      rw [← hP10] at hIj
      have HP10 := Lib.hid hP10
      clear hP10 hj hlt
      rw [show ((8 : Nat) : Int) = 8 from rfl]
      go_wp2_with fail
      refine wp_region_planT (fun w' => w' = wr.drew) [2] [(true, 0), (true, 1), (false, 2)] (by kernel_rfl) (by kernel_rfl) (rfl) ?_
      refine wpPlan_pure [0, 1] [(false, 2)] _ (by rfl) (by rfl) ?_
      dsimp only [List.filterMap, List.getElem?_cons_zero, List.getElem?_cons_succ]
      repeat (go_big_quiet_step (fail))
      refine wpQuiet_nil ?_
      refine wpPlan_forceL _ rfl ?_
      go_wp2_with fail
      refine (hfour_fill (s0 + 1 + 1 + 1) s0 100 156 (g1 + 1 + 1) 2 55 f P10 [14, 15] hl10 rfl rfl (by omega) wr.drew hIj.drew.raw (.inr ⟨_, hbj.drew⟩) hIj.drew.box HF.out.1 (by decide) (by omega)).mono ?_
      rintro e w11 ⟨rfl, hg11, hu11⟩
      have hI11 := hIj.drew.upd hu11 hg11
      clear hg11 hu11 hIj hbj
      go_wp2_with fail
      refine PlanQ.out (by rfl) ?_
      refine wpPlan_tidy ?_
      have HZ : Hid (fill (P10 ++ four_ f [14, 15]) = List.replicate 16 0 ++ Hd.rest f s) := Lib.hid (by
        have hl : (P10 ++ four_ f [14, 15]).length = 108 := by rw [List.length_append, hl10, four_length]; rfl
        unfold fill
        rw [HREST.out, hl, HP10.out, HP9.out, HP8.out, HP5.out, HS.out]
        unfold Hd.mid
        rw [HN.out.1, HN.out.2.1, HN.out.2.2]
        simp only [List.append_assoc, Int.toNat_natCast])
      have HL : Hid ((List.replicate 16 (0 : UInt8) ++ Hd.rest f s).length = 256) := Lib.hid (by rw [List.length_append, Hd.rest_length f s hs, List.length_replicate])
      rw [HZ.out] at hI11
      obtain ⟨R, hR⟩ : ∃ R, R = List.replicate 16 (0 : UInt8) ++ Hd.rest f s := ⟨_, rfl⟩
      rw [← hR] at hI11 HL
      have HR := Lib.hid hR
      clear hR
      go_wp2_with (first
        | (show wpList _ _ _ ((⟨some 47, _, _, _, _, _⟩ : Oper) :: _) _ _; refine wpList_load_blk (o := ⟨some 47, _, _, _, _, _⟩) (hI11.raw) (by rfl) _ _ (by rfl) (by rfl) _ Try.underlying55 (by rfl) (size256) (by simpa using HL.out) ?_)
        | (show wpList _ _ _ ((⟨none, _, _, _, _, _⟩ : Oper) :: _) _ _; refine wpList_store_blk (o := ⟨none, _, _, _, _, _⟩) (hI11.res) (by rfl) _ _ _ (by rfl) (by rfl) ((R.map u8v).toArray) (by rfl) (size256) (arr_size _ _) (by simpa using HL.out) (u8_all _) ?_; intro w12 h12 hu12; have HB12 := Lib.hid (hI11.bel.upd hu12 (by omega)))
        | fail)
      refine bodyPost_ret (results_cell_row (by rfl) _ _ _ _ _ _ _ (by rfl) h12 Try.underlying55 (by rfl) (by rw [size256]; simpa using HL.out.symm)) rfl ⟨by rw [HR.out], by rw [← HS0.out]; exact HB12.out⟩
end Go.Proofs.Ytekdcjaljjlemaa

/- A region that draws its order, by a plan that branches: some operations are taken first wherever they may come, of the others each that may come next is followed. Plain facts over any program. No condition. -/
namespace Go
/-- The plan: take i first; or one of several may come (opt i r more: i, then r; or one of more; no: none else). -/
inductive PlanT where
  | done
  | take (i : Nat) (r : PlanT)
  | opt (i : Nat) (r more : PlanT)
  | no
def PlanT.heads : PlanT → List Nat
  | .opt i _ m => i :: m.heads
  | _ => []
def Region.treeB (md : Region.Mode) (ops : Array Oper) (Z : List Nat) : PlanT → Bool → Nat → Array Bool → Bool
  | .done, _, n, s => decide (n = 0) && (Region.ready md ops s).isEmpty
  | .take i r, _, n, s => match n with
    | 0 => false
    | n + 1 => (Region.ready md ops s).contains i && Region.free md ops s i && (Z.all fun z => Region.waitsFor md ops z i) && Region.treeB md ops Z r true n (s.setIfInBounds i true)
  | .opt i r m, first, n, s => match n with
    | 0 => false
    | n + 1 => (!first || decide (Region.ready md ops s = i :: m.heads)) && Region.treeB md ops Z r true n (s.setIfInBounds i true) && Region.treeB md ops Z m false (n + 1) s
  | .no, first, _, _ => !first
def Region.treeZ (Z : List Nat) : PlanT → Bool → Bool
  | .done, _ => true
  | .take _ r, c => c && Region.treeZ Z r c
  | .opt i r m, c => Region.treeZ Z r (c && !Z.contains i) && Region.treeZ Z m c
  | .no, _ => true
section
variable {P : Program} {ops : Array Oper} {md : Region.Mode} {C : World → Prop} {Z : List Nat} {Q : Exit → Act → World → Prop}
def wpTree (P : Program) (ops : Array Oper) (C : World → Prop) (Z : List Nat) (Q : Exit → Act → World → Prop) : PlanT → Act → World → Prop
  | .done, a, w => Q .normal a w
  | .take i r, a, w => match ops[i]? with
    | some o => ∃ v, YieldsC P ops C o v a ∧ (C w → wpTree P ops C Z Q r (a.put o.dst v) w)
    | none => False
  | .opt i r m, a, w => wpOp P ops Q i (fun a' w' => (i ∈ Z ∨ C w') ∧ wpTree P ops C Z Q r a' w') a w ∧ wpTree P ops C Z Q m a w
  | .no, _, _ => True
theorem anyC_of_tree (hns : Region.noSelect ops = true) (hQ : ∀ c a a' w, a'.defers = a.defers → Q (.panic c) a' w → Q (.panic c) a w) :
    ∀ (t : PlanT) (c : Bool) (n : Nat) (s : Array Bool) (a : Act) (w : World), Region.treeZ Z t c = true → (c = true → C w) → wpTree P ops C Z Q t a w →
      (Region.treeB md ops Z t true n s = true → wpAnyC P md ops C Z Q n s a w) ∧
      (∀ m, n = m + 1 → Region.treeB md ops Z t false n s = true → ∀ i ∈ t.heads, wpOp P ops Q i (fun a' w' => (i ∈ Z ∨ C w') ∧ wpAnyC P md ops C Z Q m (s.setIfInBounds i true) a' w') a w) := by
  intro t
  induction t with
  | done =>
    intro c n s a w _ _ h
    refine ⟨fun hB => ?_, fun m _ _ i hi => by cases hi⟩
    simp only [Region.treeB, Bool.and_eq_true, decide_eq_true_eq] at hB
    obtain ⟨rfl, hB⟩ := hB
    exact ⟨by simpa using hB, h⟩
  | no =>
    intro c n s a w _ _ _
    exact ⟨fun hB => by simp [Region.treeB] at hB, fun m _ _ i hi => by cases hi⟩
  | take i r ih =>
    intro c n s a w hz hC h
    refine ⟨fun hB => ?_, fun m _ _ i hi => by cases hi⟩
    cases n with
    | zero => simp [Region.treeB] at hB
    | succ n =>
      simp only [Region.treeB, Bool.and_eq_true] at hB
      simp only [Region.treeZ, Bool.and_eq_true] at hz
      obtain ⟨⟨⟨h1, h2⟩, h3⟩, h4⟩ := hB
      have hr : i ∈ Region.ready md ops s := by simpa using h1
      obtain ⟨_, oi, hoi, _⟩ := mem_ready.1 hr
      simp only [wpTree, hoi] at h
      obtain ⟨v, hy, hn⟩ := h
      exact wpAnyC_first hoi hns hQ (fun z hz => List.all_eq_true.1 h3 z hz) n s a w (Region.free_spec hoi h2) hr hy (hC hz.1) ((ih c n _ _ _ hz.2 hC (hn (hC hz.1))).1 h4)
  | opt i r m ihr ihm =>
    intro c n s a w hz hC h
    simp only [Region.treeZ, Bool.and_eq_true] at hz
    obtain ⟨h1, h2⟩ := h
    have key : ∀ k first, n = k + 1 → Region.treeB md ops Z (.opt i r m) first n s = true → ∀ j ∈ (PlanT.opt i r m).heads, wpOp P ops Q j (fun a' w' => (j ∈ Z ∨ C w') ∧ wpAnyC P md ops C Z Q k (s.setIfInBounds j true) a' w') a w := by
      intro k first hn hB j hj
      subst hn
      simp only [Region.treeB, Bool.and_eq_true] at hB
      obtain ⟨⟨_, hr⟩, hm⟩ := hB
      simp only [PlanT.heads, List.mem_cons] at hj
      rcases hj with rfl | hj
      · refine wpOp_mono (fun a' w' h' => ⟨h'.1, (ihr (c && !Z.contains j) k _ a' w' hz.1 (fun hc => ?_) h'.2).1 hr⟩) h1
        simp only [Bool.and_eq_true, Bool.not_eq_true'] at hc
        refine h'.1.resolve_left fun hmm => ?_
        rw [List.contains_iff_mem.2 hmm] at hc
        cases hc.2
      · exact (ihm c (k + 1) s a w hz.2 hC h2).2 k rfl hm j hj
    refine ⟨fun hB => ?_, fun k hk hB => key k false hk hB⟩
    cases n with
    | zero => simp [Region.treeB] at hB
    | succ n =>
      have hk := key n true rfl hB
      simp only [Region.treeB, Bool.and_eq_true, Bool.not_true, Bool.false_or, decide_eq_true_eq] at hB
      refine ⟨fun h0 => (by rw [hB.1.1] at h0; cases h0), fun j hj => ?_⟩
      rw [hB.1.1] at hj
      exact hk j hj
/-- **THE REGION, BY A PLAN THAT BRANCHES.** -/
theorem wp_region_tree {id : Nat} {a : Act} {w : World} {l : List Oper} {Q : Exit → Act → World → Prop} (C : World → Prop) (Z : List Nat) (t : PlanT) (hm : P.follows .mixedOrders = true)
    (hB : (Region.noSelect l.toArray && Region.treeB .any l.toArray Z t true l.toArray.size (Array.replicate l.toArray.size false) && Region.treeZ Z t true) = true)
    (hC : C w.drew) (h : wpTree P l.toArray C Z (tidy Q) t a w.drew) : (Code.region id l.toArray true).wp P Q a w := by
  simp only [Bool.and_eq_true] at hB
  refine wp_mono (Q := tidy Q) ?_ (tidy_le Q)
  refine wp_region_any hm ?_
  exact wpAny_of_C _ _ _ _ ((anyC_of_tree hB.1.1 (fun _ _ _ _ _ q => q.elim) t true _ _ a w.drew hB.2 (fun _ => hC) h).1 hB.1.2)
theorem wpIn_region_tree {F : Fence} {n : Nat} {id : Nat} {a : Act} {w : World} {l : List Oper} {Q : Exit → Act → World → Prop} (C : World → Prop) (Z : List Nat) (t : PlanT) (hm : P.follows .mixedOrders = true)
    (hB : (Region.noSelect l.toArray && Region.treeB .any l.toArray Z t true l.toArray.size (Array.replicate l.toArray.size false) && Region.treeZ Z t true) = true)
    (hc : (l.toArray.all fun o => o.op.calmB) = true)
    (hC : C w.drew) (h : wpTree P l.toArray C Z (tidy Q) t a w.drew) : (Code.region id l.toArray true).wpIn F n P Q a w := by
  simp only [Bool.and_eq_true] at hB
  refine wpIn_mono (wpIn_region_any (Q := tidy Q) hm (anyIn_of_any hc _ _ _ _ ?_)) (tidy_le Q)
  rw [strict_tidy]
  exact wpAny_of_C _ _ _ _ ((anyC_of_tree hB.1.1 (fun _ _ _ _ _ q => q.elim) t true _ _ a w.drew hB.2 (fun _ => hC) h).1 hB.1.2)
def PlanT.takes : List Nat → PlanT → PlanT
  | [], r => r
  | i :: is, r => .take i (PlanT.takes is r)
theorem wpTree_take {w : World} (is : List Nat) (r : PlanT) : ∀ (a : Act), ((is.filterMap fun i => ops[i]?).all fun o => o.op.stillB) = true → (is.all fun i => decide (i < ops.size)) = true →
    C w → wpQuiet P ops C (fun a' => wpTree P ops C Z Q r a' w) (is.filterMap fun i => ops[i]?) a → wpTree P ops C Z Q (PlanT.takes is r) a w := by
  induction is with
  | nil => intro a _ _ _ h; exact h
  | cons i is ih =>
    intro a hs hlt hC h
    simp only [List.all_cons, Bool.and_eq_true, decide_eq_true_eq] at hlt
    have hi : ops[i]? = some ops[i] := Array.getElem?_eq_getElem hlt.1
    simp only [List.filterMap_cons, hi, List.all_cons, Bool.and_eq_true] at hs h
    have hq : qOp P ops C i (wpQuiet P ops C (fun a' => wpTree P ops C Z Q r a' w) (is.filterMap fun i => ops[i]?)) a := by unfold qOp; simp only [hi]; exact h
    obtain ⟨v, hy, hK⟩ := yieldsIn_of_qOp hi hq
    simp only [PlanT.takes, wpTree, hi]
    exact ⟨v, yieldsC_of hs.1 hy, fun _ => ih _ hs.2 hlt.2 hC hK⟩
/-- Operations that are taken first, read in a class of worlds. -/
theorem wpTree_takeL {l : List Oper} {w : World} (is : List Nat) (r : PlanT) (a : Act) (hs : ((is.filterMap fun i => l[i]?).all fun o => o.op.stillB) = true) (hlt : (is.all fun i => decide (i < l.length)) = true)
    (hC : C w) (h : wpQuiet P l.toArray C (fun a' => wpTree P l.toArray C Z Q r a' w) (is.filterMap fun i => l[i]?) a) : wpTree P l.toArray C Z Q (PlanT.takes is r) a w := by
  have e : (is.filterMap fun i => l.toArray[i]?) = is.filterMap fun i => l[i]? := by congr 1; funext i; exact List.getElem?_toArray ..
  exact wpTree_take is r a (by rw [e]; exact hs) (by simpa using hlt) hC (by rw [e]; exact h)
theorem wpTree_pure {l : List Oper} {w : World} (is : List Nat) (r : PlanT) : ∀ (a : Act), ((is.filterMap fun i => l[i]?).all fun o => o.op.stillB) = true → (is.all fun i => decide (i < l.length)) = true →
    wpQuiet P l.toArray (fun _ => True) (fun a' => wpTree P l.toArray C Z Q r a' w) (is.filterMap fun i => l[i]?) a → wpTree P l.toArray C Z Q (PlanT.takes is r) a w := by
  induction is with
  | nil => intro a _ _ h; exact h
  | cons i is ih =>
    intro a hs hlt h
    simp only [List.all_cons, Bool.and_eq_true, decide_eq_true_eq] at hlt
    have hi : l[i]? = some l[i] := List.getElem?_eq_getElem hlt.1
    have hi' : l.toArray[i]? = some l[i] := by rw [List.getElem?_toArray]; exact hi
    simp only [List.filterMap_cons, hi, List.all_cons, Bool.and_eq_true] at hs h
    have hq : qOp P l.toArray (fun _ => True) i (wpQuiet P l.toArray (fun _ => True) (fun a' => wpTree P l.toArray C Z Q r a' w) (is.filterMap fun i => l[i]?)) a := by unfold qOp; simp only [hi']; exact h
    obtain ⟨v, hy, hK⟩ := yieldsIn_of_qOp hi' hq
    have hy' := yieldsC_of hs.1 hy
    simp only [PlanT.takes, wpTree, hi']
    refine ⟨v, ?_, fun _ => ih _ hs.2 hlt.2 hK⟩
    rcases hy' with ⟨h1, h2⟩ | h1
    · exact .inl ⟨h1, fun w _ => h2 w trivial⟩
    · exact .inr h1
/-- What is asked behind an operation that came. -/
def TreeQ (P : Program) (ops : Array Oper) (C : World → Prop) (Z : List Nat) (Q : Exit → Act → World → Prop) (i : Nat) (r : PlanT) : Exit → Act → World → Prop
  | .normal, a, w => (i ∈ Z ∨ C w) ∧ wpTree P ops C Z Q r a w
  | e, a, w => Q e a w
theorem wpTree_opt {l : List Oper} {a : Act} {w : World} {i : Nat} {r m : PlanT} (o : Oper) (ho : l[i]? = some o) (h : wpList P l.toArray (TreeQ P l.toArray C Z Q i r) [o] a w) (hm : wpTree P l.toArray C Z Q m a w) : wpTree P l.toArray C Z Q (.opt i r m) a w := by
  refine ⟨?_, hm⟩
  have ho' : l.toArray[i]? = some o := by rw [List.getElem?_toArray]; exact ho
  unfold wpOp
  simp only [ho']
  unfold wpList at h
  have hmono : ∀ {a : Act} {w : World}, o.wp P a w (wpList P l.toArray (TreeQ P l.toArray C Z Q i r) []) (TreeQ P l.toArray C Z Q i r) → o.wp P a w (fun a' w' => (i ∈ Z ∨ C w') ∧ wpTree P l.toArray C Z Q r a' w') Q := by
    intro a w h
    unfold Oper.wp at h ⊢
    generalize (execOp a.eval o).run P w = rr at *
    cases rr with
    | ok n w' =>
      cases n <;> simp only [Oper.upon] at h ⊢
      case value u => exact h
      case skip => exact h
      case defer d => exact h
      case enter f args =>
        refine Calls.mono h fun e w'' he => ?_
        cases e <;> exact he
      case row row args => exact Rows.mono h fun u w'' he => he
    | halt x w' => cases x <;> simp only [Oper.upon] at h ⊢; exact h
  split
  · rename_i hw
    rw [if_pos hw] at h
    rcases h with h | ⟨h1, h2⟩
    · exact .inl (hmono h)
    · exact .inr ⟨h1, h2⟩
  · rename_i hw
    rw [if_neg hw] at h
    exact h
/-- The only one that may come. -/
theorem wpTree_one {l : List Oper} {a : Act} {w : World} {i : Nat} {r : PlanT} (o : Oper) (ho : l[i]? = some o) (h : wpList P l.toArray (TreeQ P l.toArray C Z Q i r) [o] a w) : wpTree P l.toArray C Z Q (.opt i r .no) a w :=
  wpTree_opt o ho h trivial
theorem wpTree_done {a : Act} {w : World} (h : Q .normal a w) : wpTree P ops C Z (tidy Q) .done a w := h
theorem TreeQ.in_ {a : Act} {w : World} {i : Nat} {r : PlanT} (hC : C w) (h : wpTree P ops C Z Q r a w) : TreeQ P ops C Z Q i r .normal a w := ⟨.inr hC, h⟩
theorem TreeQ.out {a : Act} {w : World} {i : Nat} {r : PlanT} (hz : Z.contains i = true) (h : wpTree P ops C Z Q r a w) : TreeQ P ops C Z Q i r .normal a w := ⟨.inl (by simpa using hz), h⟩
/-- What branches share: the rest is shown once. (By 'apply': G is found in the first branch.) -/
theorem share {α : Type} {F G : α → World → Prop} {goal : Prop} (main : (∀ x w, F x w → G x w) → goal) (tail : ∀ x w, F x w → G x w) : goal := main tail
end
end Go

/- append(s, x...) where the room suffices: in place. Plain facts over any program. Condition: the slice begins at its block's front. -/
namespace Go
open Go.RowKit
theorem wpList_append_room {P : Program} {w : World} {ops : Array Oper} {rest : List Oper} {o : Oper} {a : Act} {Q : Exit → Act → World → Prop} (hgd : o.guard = none) (s x : Operand) (t : TypeId)
    (ho : o.op = .call { callee := .builtin .append, args := #[s, x], argTypes := #[t, t] })
    (e : TypeId) (ht : P.underlying t = some (.slice e)) (hi : (P.info? e).map (fun i => (i.zero, i.size, i.bytes)) = some (some (.int .u8 0), 1, 1))
    (g n cap : Nat) (l sp : List UInt8) (hn : l.length = n) (hs : a.eval s = .slice (some ⟨g, 0, none⟩) n cap) (hg : Blk w g e ((l ++ sp).map u8v).toArray) (hcap : n + sp.length = cap)
    (A : Option Addr) (m c : Nat) (xs : List UInt8) (hm : xs.length = m) (hx : a.eval x = .slice A m c) (hr : Bytes w A xs) (hroom : m ≤ sp.length)
    (h : ∀ w', Blk w' g e ((l ++ (xs ++ sp.drop m)).map u8v).toArray → Upd g w w' → wpList P ops Q rest (a.put o.dst (.slice (some ⟨g, 0, none⟩) (n + m) cap)) w') : wpList P ops Q (o :: rest) a w := by
  subst hn hm
  refine wpList_plain hgd fun _ hK => ?_
  obtain ⟨i, hi0, hz, hsize, hby⟩ := info_parts hi
  rcases Nat.eq_zero_or_pos xs.length with h0 | h0
  · obtain rfl : xs = [] := List.eq_nil_of_length_eq_zero h0
    have hrun : (Builtin.append_ #[t, t] o.type #[.slice (some ⟨g, 0, none⟩) l.length cap, .slice A 0 c]).run P w = .ok (.slice (some ⟨g, 0, none⟩) l.length cap) w := by
      have hf : ∀ (s : Nat), (Builtin.firstCells s 0 (.slice A 0 c)).run P w = .ok #[] w := fun s => by
        cases A <;> simp [Builtin.firstCells, loadCells, loadCellsFrom]
      have hle : l.length ≤ cap := by omega
      simp [Builtin.append_, run_underlying ht, sizeOf, typeInfo, hi0, Builtin.lenOf, hf, hle, storeCells]
    unfold Oper.wp execOp
    simp only [List.length_nil] at hx
    simp only [ho, resolve, invoke, builtin, Sem.run_bind, Sem.run_pure, Result.andThen_ok, List.map_toArray, List.map_cons, List.map_nil, hs, hx, hrun]
    exact hK _ _ (h w (by simpa using hg) (Upd.refl g w))
  · have hne : xs.map u8v ≠ [] := by intro e; simp at e; rw [e] at h0; simp at h0
    obtain ⟨b, off, rfl, hc⟩ := hr hne
    have hrun := run_append_room (P := P) w t o.type e i ht hi0 g l.length cap ((l ++ sp).map u8v).toArray hg ⟨b, off, none⟩ xs.length c (xs.map u8v) (by simp [hsize]) (fun j u hu => by rw [Addr.add_lit]; exact hc j u hu) (u8v_one xs) (by omega) (by rw [hsize]; simp; omega)
    unfold Oper.wp execOp
    simp only [ho, resolve, invoke, builtin, Sem.run_bind, Sem.run_pure, Result.andThen_ok, List.map_toArray, List.map_cons, List.map_nil, hs, hx]
    rw [hrun]
    refine hK _ _ (h _ ((Blk.setRow hg _).sub ?_) (Upd.setRow _ _ _))
    simp [hsize, List.drop_append]
end Go

/- A message's bytes, as the program lays them: one whose header may not be, or whose body is too long. Conditions: the body can be read. -/
namespace Go.Proofs.Ytekdcjaljjlemaa
open Go.RowKit
def msgc (f : HdF) (v : Value) : Array Value := arr 17 fun i => if i < 16 then hdv f i else v
theorem msgc_16 (f : HdF) (v : Value) : (msgc f v)[16]? = some v := by unfold msgc; rw [arr_at _ (by omega), if_neg (by omega)]
theorem msgc_hd (f : HdF) (v : Value) (i : Nat) (h : i < 16) : (msgc f v)[i]? = (hdc f)[i]? := by unfold msgc hdc; rw [arr_at _ (by omega), arr_at _ h, if_pos h]
theorem sizeHd : (Try.prog.info? 26).map (·.size) = some 16 := by kernel_rfl
theorem sizeMsg : (Try.prog.info? 29).map (·.size) = some 17 := by kernel_rfl
theorem hdc_size (f : HdF) : (hdc f).size = 16 := arr_size _ _
theorem hdc_one (f : HdF) : (hdc f).all (·.oneCell') = true := by
  rw [Array.all_eq_true]
  intro i hi
  have h := hdc_size f
  have : (hdc f)[i]? = some (hdv f i) := arr_at _ (by omega)
  rw [Array.getElem?_eq_getElem hi] at this
  rw [Option.some.inj this]
  unfold hdv; split <;> rfl
theorem hd_range {w : World} {g : Nat} {t : TypeId} {f : HdF} {v : Value} (h : Blk w g t (msgc f v)) : w.rangeAt g 0 (hdc f).toList := Blk.range h 0 _ fun j u hu => by
  rw [Array.getElem?_toList] at hu
  have hj : j < 16 := by
    rcases Nat.lt_or_ge j 16 with h1 | h1
    · exact h1
    · rw [Array.getElem?_eq_none (by rw [hdc_size]; omega)] at hu; cases hu
  rw [Nat.zero_add, msgc_hd f v j hj]; exact hu
def zeroHd : HdF := fun _ => 0
theorem zeroHd_cells : hdc zeroHd = #[.int .i64 0, .int .i64 0, .int .i64 0, .int .i64 0, .int .i64 0, .int .i64 0, .int .i64 0, .int .i64 0, .int .i64 0, .int .u64 0, .int .u64 0, .int .i64 0, .int .i64 0, .int .u64 0, .int .i64 0, .int .i64 0] := by
  rfl
theorem hseal_long (f : HdF) (A : Option Addr) (c : Nat) (body : List UInt8) (w : World) (hlong : 1024 < body.length) :
    Calls Try.prog 8 #[.agg (msgc f (.slice A body.length c))] w fun e w' => e = .returned (.tuple #[.slice none 0 0, .int .i64 3]) ∧ Below w.heap.size w w' := by
  have hg := Blk.new w 29 (msgc f (.slice A body.length c))
  have hB := Lib.hid ((Below.refl w.heap.size w).alloc (Nat.le_refl _) (.cells (msgc f (.slice A body.length c)) 29))
  have d16 := hg.at_ 16 (msgc_16 f _)
  clear hg
  go_enter Try.func8, Try.ntmps8
  go_wp2
  go_ret2
  exact ⟨rfl, hB.out⟩
set_option maxHeartbeats 1000000 in
theorem hseal_no (f : HdF) (A : Option Addr) (c : Nat) (body : List UInt8) (w : World) (hlong : body.length ≤ 1024) (hno : Hd.ok (setF f 2 body.length) = false) :
    Calls Try.prog 8 #[.agg (msgc f (.slice A body.length c))] w fun e w' => e = .returned (.tuple #[.slice none 0 0, .int .i64 2]) ∧ Below w.heap.size w w' := by
  have hg := Blk.new w 29 (msgc f (.slice A body.length c))
  have hB := Lib.hid ((Below.refl w.heap.size w).alloc (Nat.le_refl _) (.cells (msgc f (.slice A body.length c)) 29))
  have d16 := hg.at_ 16 (msgc_16 f _)
  have HR := Lib.hid (hd_range hg)
  have HG := Lib.hid hg
  have HNO := Lib.hid hno
  clear hg hno
  go_enter Try.func8, Try.ntmps8
  go_wp2_with (first
    | (show wpList _ _ _ ((⟨some 14, _, _, _, _, _⟩ : Oper) :: _) _ _; refine wpList_load_mid (o := ⟨some 14, _, _, _, _, _⟩) HR.out (by rfl) _ _ (by rfl) (by rfl) _ Try.underlying26 (by rfl) sizeHd (by rw [Array.length_toList, hdc_size]) ?_; rw [Array.toArray_toList]; clear HR d16; generalize World.alloc w _ = w1 at HG hB ⊢; have hlt := HG.out.lt)
    | (show wpList _ _ _ ((⟨none, _, _, _, _, _⟩ : Oper) :: _) _ _; refine wpList_store_blk (o := ⟨none, _, _, _, _, _⟩) ((Blk.new w1 26 #[.int .i64 0, .int .i64 0, .int .i64 0, .int .i64 0, .int .i64 0, .int .i64 0, .int .i64 0, .int .i64 0, .int .i64 0, .int .u64 0, .int .u64 0, .int .i64 0, .int .i64 0, .int .u64 0, .int .i64 0, .int .i64 0]).sub zeroHd_cells.symm) (by rfl) _ _ _ (by rfl) (by rfl) (hdc f) (by rfl) (sizeHd) (hdc_size _) (hdc_size _) (hdc_one _) ?_; intro w2 h2 hu2; have hbx := ((Below.refl w1.heap.size w1).alloc (Nat.le_refl _) (.cells #[.int .i64 0, .int .i64 0, .int .i64 0, .int .i64 0, .int .i64 0, .int .i64 0, .int .i64 0, .int .i64 0, .int .i64 0, .int .u64 0, .int .u64 0, .int .i64 0, .int .i64 0, .int .u64 0, .int .i64 0, .int .i64 0] 26)).upd hu2 (Nat.le_refl _); have HG2 := Lib.hid (HG.out.below hbx hlt); have HB2 := Lib.hid (hB.out.trans (hbx.mono hB.out.size)); have d16 := HG2.out.at_ 16 (msgc_16 f _); have fz := h2.frozen 2; have dz := h2.at_ 2 (hdc_at f 2 (by omega) (by omega) (by omega) (by omega)); have HS := Lib.hid (And.intro ((h2.set_ 2 (.int .i64 (body.length : Nat))).sub (hdc_set f 2 _ (by omega) (by omega) (by omega))) (And.intro (HG2.out.off (c := w1.heap.size) (i := 2) (by omega) (.int .i64 (body.length : Nat))) (HB2.out.set_ (c := w1.heap.size) (i := 2) (by omega) (.int .i64 (body.length : Nat))))); clear hu2 hbx HG hB HG2 HB2 h2)
    | (show wpList _ _ _ ((⟨some 19, _, _, _, _, _⟩ : Oper) :: _) _ _; clear fz dz d16; generalize World.setCell w2 _ _ = w3 at HS ⊢; generalize w1.heap.size = hb at HS hlt ⊢; obtain ⟨hh, hG, hB⟩ := HS.out; clear HS; (show wpList _ _ _ ((⟨some 19, _, _, _, _, _⟩ : Oper) :: _) _ _; refine wpList_load_blk (o := ⟨some 19, _, _, _, _, _⟩) (hh) (by rfl) _ _ (by rfl) (by rfl) _ Try.underlying26 (by rfl) (sizeHd) (hdc_size _) ?_))
    | fail)
  refine (hcheck_any _ w3).mono ?_
  rintro e w4 ⟨rfl, hbx⟩
  (replace hB := hB.trans (hbx.mono hB.size); clear hbx hG hh)
  rw [show Hd.code (setF f 2 body.length) = 2 by unfold Hd.code; rw [HNO.out]; rfl]
  go_wp2
  go_ret2
  exact ⟨rfl, hB⟩
end Go.Proofs.Ytekdcjaljjlemaa
