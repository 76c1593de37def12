/- The program's seal of bytes answers what the plain function says. Condition: the bytes can be read and their room is at most 2^47 - 4096. -/
import Derived.Test.YtfpcldnefpmgcaaBlockP
import Derived.Test.YtfpcldnefpmgcaaSumB
namespace Go.Proofs.Ytfpcldnefpmgcaa
open Go.RowKit
set_option maxHeartbeats 400000 in
set_option maxRecDepth 100000 in
theorem constants_any (w : World) : Calls Try.prog 44 #[] w fun e w' => e = .returned (.agg karr) ∧ Below w.heap.size w w' := by
  have a64 := alloc64
  have hz := Blk.new w 64 zero64
  go_enter Try.func44, Try.ntmps44
  go_wp2_with (first | (show wpList _ _ _ ((⟨some 1, .build _ _, _, _, _, _⟩ : Oper) :: _) _ _; (refine wpList_run (o := ⟨some 1, .build _ _, _, _, _, _⟩) (.agg karr) (by rfl) (by kernel_rfl) ?_)) | (show wpList _ _ _ ((⟨none, _, _, _, _, _⟩ : Oper) :: _) _ _; ((refine wpList_store_blk (o := ⟨none, _, _, _, _, _⟩) hz (by rfl) _ _ _ (by rfl) (by rfl) karr (by kernel_rfl) size64 zero64_size karr_size karr_one ?_; intro w1 h1 hu1))))
  refine bodyPost_ret (results_cell_row (by rfl) _ _ _ _ _ _ _ (by rfl) h1 Try.underlying64 (by rfl) size64) rfl ⟨rfl, ((Below.refl _ _).alloc (Nat.le_refl _) _).upd hu1 (Nat.le_refl _)⟩
/-- What holds ahead of each block of the padded rest. -/
def PadRel (w : World) (H K : Nat) (l : List UInt8) (v : Value) (wr : World) : Prop :=
  ∃ (j : Nat) (M : List UInt8) (A' : Option Addr) (c' : Nat), 64 * j ≤ (Sha.pad l).length ∧ M = (Sha.pad l).drop (64 * j) ∧ M.length ≤ c' ∧ c' ≤ maxLen ∧ v = .slice A' M.length c' ∧ Bytes wr A' M ∧ (∀ ad, A' = some ad → K < ad.block) ∧ SInv 67 w wr H K (Sha.blks (Sha.pad l) Sha.init j)
set_option maxHeartbeats 1000000 in
set_option maxRecDepth 100000 in
theorem sum_any (A : Option Addr) (c : Nat) (l : List UInt8) (hc : l.length ≤ c) (hc2 : l.length ≤ 140737488351232 ∧ c ≤ 9223372036854775807) (w : World) (hb : Bytes w A l) :
    Calls Try.prog 15 #[.slice A l.length c] w fun e w' => e = .returned (.agg ((Sha.sum l).map u8v).toArray) ∧ Below w.heap.size w w' := by
  have a64 := alloc64
  have a16 := alloc16
  have hz8 : Blk ((w.alloc (.cells zero16 23)).alloc (.cells #[.int .u32 0, .int .u32 0, .int .u32 0, .int .u32 0, .int .u32 0, .int .u32 0, .int .u32 0, .int .u32 0] 67)) (w.heap.size + 1) 67 zero8 := Blk.new' _ _ _ (by simp)
  have hz16 : Blk ((w.alloc (.cells zero16 23)).alloc (.cells #[.int .u32 0, .int .u32 0, .int .u32 0, .int .u32 0, .int .u32 0, .int .u32 0, .int .u32 0, .int .u32 0] 67)) w.heap.size 23 zero16 := (Blk.new _ _ _).alloc _
  have hbz : Below w.heap.size w ((w.alloc (.cells zero16 23)).alloc (.cells #[.int .u32 0, .int .u32 0, .int .u32 0, .int .u32 0, .int .u32 0, .int .u32 0, .int .u32 0, .int .u32 0] 67)) := ((Below.refl _ _).alloc (Nat.le_refl _) _).alloc (by simp) _
  go_enter Try.func15, Try.ntmps15
  go_wp2_with (first
    | (show wpList _ _ _ ((⟨some 11, .build _ _, _, _, _, _⟩ : Oper) :: _) _ _; refine wpList_run (o := ⟨some 11, .build _ _, _, _, _, _⟩) (.agg (st8 Sha.init)) (by rfl) (by kernel_rfl) ?_)
    | (show wpList _ _ _ ((⟨none, .store _ (.tmp 3) (.tmp 11), _, _, _, _⟩ : Oper) :: _) _ _; go_must (refine wpList_store_blk (o := ⟨none, _, _, _, _, _⟩) hz8 (by rfl) _ _ _ (by rfl) (by rfl) (st8 Sha.init) (by rfl) size8 zero8_size (st8_size _) (st8_one _) ?_; intro w1 h1 hu1; replace hz16 := hz16.upd hu1 (by omega); replace hbz := hbz.upd hu1 (by omega); clear hu1 hz8)))
  refine (constants_any _).mono ?_
  rintro e w2 ⟨rfl, hb2⟩
  have hlt2 := (h1.below hb2 h1.lt).lt
  have hk64 := Blk.new w2 64 zero64
  replace h1 := (h1.below hb2 h1.lt).alloc (.cells zero64 64)
  replace hz16 := (hz16.below hb2 hz16.lt).alloc (.cells zero64 64)
  replace hbz := (hbz.trans (hb2.mono hbz.size)).alloc (by omega) (.cells zero64 64)
  go_wp2_with (show wpList _ _ _ ((⟨none, .store _ (.tmp 4) (.tmp 12), _, _, _, _⟩ : Oper) :: _) _ _; go_must (refine wpList_store_blk (o := ⟨none, _, _, _, _, _⟩) hk64 (by rfl) _ _ _ (by rfl) (by rfl) karr (by rfl) size64 zero64_size karr_size karr_one ?_; intro w3 h3 hu3; have hI : SInv 67 w w3 (w.heap.size + 1) w2.heap.size Sha.init := ⟨h1.upd hu3 (by omega), h3, hz16.upd hu3 (by omega), by omega, hlt2, hbz.upd hu3 (by omega)⟩; clear hu3 h1 hz16 hbz hk64 h3))
  clear hb2 hlt2
  generalize w2.heap.size = K at hI ⊢
  generalize hH : w.heap.size + 1 = H at hI ⊢
  clear hH
  go_loopw [0] (fun v wr => ∃ (t : Nat) (l' : List UInt8) (A' : Option Addr) (c' : Nat), 64 * t ≤ l.length ∧ l' = l.drop (64 * t) ∧ l'.length ≤ c' ∧ c' ≤ c ∧ v = .slice A' l'.length c' ∧ Bytes w A' l' ∧ SInv 67 w wr H K (Sha.blks l Sha.init t)) (fun v _ => lenOf v)
  case atStart => exact ⟨0, l, A, c, by omega, by simp, hc, Nat.le_refl _, rfl, hb, hI⟩
  case round =>
    clear hI
    obtain ⟨t, l', A', c', ht, hl', hc', hcc, rfl, hb', hI⟩ := hrel
    have HL := Lib.hid hl'
    have hlen : l'.length + 64 * t = l.length := by rw [hl']; simp; omega
    have HN := Lib.hid hlen
    clear hl' hlen
    by_cases h64 : 64 ≤ l'.length
    · obtain ⟨b, off, rfl, hbl, hcell⟩ := hb'.at_ (by omega)
      have HB := Lib.hid hb'; clear hb'
      have HC := Lib.hid hcell; clear hcell
      go_wp2
      have hst : ∀ w', Below wr.heap.size wr w' → Calls Try.prog 45 #[.agg (st8 (Sha.blks l Sha.init t)), .slice (some ⟨b, off, none⟩) l'.length c', .agg karr] w' fun e w'' => e = .returned (.agg (st8 (Sha.blk (Sha.blks l Sha.init t) l' 0))) ∧ Below wr.heap.size wr w'' := by
        intro w' hw'
        have hI' := hI.below hw'
        refine (block_any _ b off _ c' l' rfl h64 w' (by have := hI'.bel.size; omega) (fun j hj => ?_)).mono fun e w'' h => ⟨h.1, hw'.trans (h.2.mono hw'.size)⟩
        rw [hI'.bel.cell (p := ⟨b, off + j, none⟩) hbl]; exact HC.out j hj
      refine wp_region_mix (Below wr.heap.size wr) [1, 4, 5] [0, 2, 3] 6 [7] (by kernel_rfl) (by kernel_rfl) (fun c a a' w h q => ⟨h ▸ q.1, q.2⟩) (Below.refl _ _).drew ?_
      dsimp only [List.filterMap, List.getElem?_cons_zero, List.getElem?_cons_succ]
      repeat (go_big_quiet_step (fail))
      refine wpQuiet_nil ?_
      refine wpQuiet_load_blk (fun w' hw' => (hI.below hw').hh) (by rfl) _ _ (by rfl) (by rfl) _ Try.underlying67 (by rfl) size8 (st8_size _) ?_
      simp only [Act.put, List.setIfInBounds_toArray, List.set_cons_zero, List.set_cons_succ]
      refine wpQuiet_load_blk (fun w' hw' => (hI.below hw').kk) (by rfl) _ _ (by rfl) (by rfl) _ Try.underlying64 (by rfl) size64 karr_size ?_
      simp only [Act.put, List.setIfInBounds_toArray, List.set_cons_zero, List.set_cons_succ]
      refine wpQuiet_call Try.call45 (by rfl) _ _ (by rfl) _ (by rfl) _ hst ?_
      simp only [Act.put, List.setIfInBounds_toArray, List.set_cons_zero, List.set_cons_succ]
      refine wpQuiet_nil ?_
      intro w5 hw5
      replace hI := hI.below hw5
      clear hw5 hst
      go_wp2_with (show wpList _ _ _ ((⟨none, .store _ (.tmp 3) (.tmp 21), _, _, _, _⟩ : Oper) :: _) _ _; go_must (refine wpList_store_blk (o := ⟨none, _, _, _, _, _⟩) hI.hh (by rfl) _ _ _ (by rfl) (by rfl) (st8 (Sha.blk (Sha.blks l Sha.init t) l' 0)) (by rfl) size8 (st8_size _) (st8_size _) (st8_one _) ?_; intro w6 h6 hu6; have hI6 := hI.stored h6 hu6; clear hu6 hI h6))
      go_roundw
      case rel =>
        have hlen := HN.out
        refine ⟨t + 1, l'.drop 64, _, c' - 64, by omega, ?_, by simp; omega, by omega, ?_, HB.out.drop (k := 64) (cap := c') (by omega), ?_⟩
        · rw [HL.out, List.drop_drop]; congr 1
        · rw [List.length_drop]; rfl
        · have : Sha.blk (Sha.blks l Sha.init t) l' 0 = Sha.blks l Sha.init (t + 1) := by rw [HL.out, Sha.blk_drop]; rfl
          rw [← this]; exact hI6
      case measure => simp [lenOf]; omega
    · have hz : Sha.zeros l'.length = Sha.zeros l.length := by rw [← HN.out, Sha.zeros_add]
      have HZ := Lib.hid hz; clear hz
      have hb7 := Bytes.below hb' hI.bel
      clear hb'
      have hKlt := hI.kk.lt
      go_wp2_with (first
        | (show wpList _ _ _ ((⟨some 25, _, _, _, _, _⟩ : Oper) :: _) _ _; go_must (refine wpList_append_bytes (o := ⟨some 25, _, _, _, _, _⟩) (by rfl) _ _ _ (by rfl) (K + 1) _ Try.underlying22 u8info (.slice none 0 0) [] [] (by rfl) (Own.nil _ _ _ _) A' c' l' (by rfl) hb7 (by simp; omega) hKlt ?_; intro v1 w7 sp1 ho1 hg1 ha1 hn1; replace hI := hI.grown hg1 (fun k hk => by simp [Value.ownBlock] at hk); clear hb7 hn1 hg1; replace ho1 := ho1.alloc (.cells #[.int .u8 128] 5); have hlit : Bytes (w7.alloc (.cells #[.int .u8 128] 5)) (some ⟨w7.heap.size, 0, none⟩) [128] := bytes_lit w7 _ [128]))
        | (show wpList _ _ _ ((⟨some 27, _, _, _, _, _⟩ : Oper) :: _) _ _; go_must (refine wpList_append_bytes (o := ⟨some 27, _, _, _, _, _⟩) (by rfl) _ _ _ (by rfl) (K + 1) _ Try.underlying22 u8info v1 ([] ++ l') sp1 (by rfl) ho1 (some ⟨w7.heap.size, 0, none⟩) 1 [128] (by rfl) hlit (by simp; omega) (by have := hI.kk.lt; simp; omega) ?_; intro v2 w8 sp2 ho2 hg2 _ _; replace hI := (hI.alloc (.cells #[.int .u8 128] 5)).grown hg2 (fun k hk => (Own.lt ho1 k hk).1); clear hlit ho1 hg2 ha1)))
      have ho3 : OwnB 5 w8 (K + 1) v2 (l' ++ 128 :: List.replicate 0 0) sp2 := by simpa using ho2
      clear ho2
      go_loopw [6] (fun v wr => ∃ (i : Nat) (L sp : List UInt8), i ≤ Sha.zeros l.length ∧ L = l' ++ 128 :: List.replicate i 0 ∧ OwnB 5 wr (K + 1) v L sp ∧ SInv 67 w wr H K (Sha.blks l Sha.init t)) (fun v _ => 300 - lenOf v)
      case atStart => exact ⟨0, _, _, by omega, rfl, ho3, hI⟩
      case round =>
        clear hI ho3
        obtain ⟨i, L, sp, hi, hL, ho, hI⟩ := hrel
        obtain ⟨A2, c2, rfl, hc1, hc3, hr1, _⟩ := Own.reads ho
        have hLlen : L.length = l'.length + 1 + i := by rw [hL]; simp; omega
        have HL2 := Lib.hid hL
        have HO := Lib.hid ho
        have hzl := Sha.zeros_lt l.length
        have hz := HZ.out
        have hl64 : l'.length < 64 := by omega
        by_cases hlt : i < Sha.zeros l.length
        · have ht1 : (((L.length : Nat) : Int) % 64 != 56) = true := by rw [bne_iff_ne]; have := Sha.zeros_not hl64 (by rw [hz]; exact hlt); rw [← hLlen] at this; omega
          have hKlt := hI.kk.lt
          have hLle : L.length ≤ 200 := by omega
          have HLl := Lib.hid hLlen
          clear hL hLlen hz hr1
          replace ho := ho.alloc (.cells #[.int .u8 0] 5)
          have hlit : Bytes (wr.alloc (.cells #[.int .u8 0] 5)) (some ⟨wr.heap.size, 0, none⟩) [0] := bytes_lit wr _ [0]
          go_wp2_with (show wpList _ _ _ ((⟨some 34, _, _, _, _, _⟩ : Oper) :: _) _ _; refine wpList_append_bytes (o := ⟨some 34, _, _, _, _, _⟩) (by rfl) _ _ _ (by rfl) (K + 1) _ Try.underlying22 u8info (.slice A2 L.length c2) L sp (by rfl) ho (some ⟨wr.heap.size, 0, none⟩) 1 [0] (by rfl) hlit (by simp; omega) (by simp; omega) ?_; intro v3 w9 sp3 ho3 hg3 _ _; have hI3 := (hI.alloc (.cells #[.int .u8 0] 5)).grown hg3 (fun k hk => (Own.lt ho k hk).1); clear hlit ho hg3 hI)
          obtain ⟨A3, c3, rfl, _⟩ := Own.reads ho3
          go_roundw
          case rel => exact ⟨i + 1, _, _, by omega, by rw [HL2.out]; simp [List.replicate_succ'], ho3, hI3⟩
          case measure => simp [lenOf]; omega
        · obtain rfl : i = Sha.zeros l.length := by omega
          have ht1 : (((L.length : Nat) : Int) % 64 != 56) = false := by
            have := Sha.zeros_is hl64
            rw [hz, ← hLlen] at this
            have h2 : ((L.length : Nat) : Int) % 64 = 56 := by omega
            rw [h2]; rfl
          have hLle : L.length ≤ 200 := by omega
          clear hL hLlen hz hr1
          go_wp2
          go_loopw [6, 7] (fun v i wr => ∃ (k : Nat) (sp : List UInt8) (E : List UInt8), k ≤ 8 ∧ i = .int .i64 (56 - 8 * (k : Int)) ∧ E = (Sha.eight (l.length * 8)).take k ∧ OwnB 5 wr (K + 1) v (L ++ E) sp ∧ SInv 67 w wr H K (Sha.blks l Sha.init t)) (fun _ i _ => (intOf i + 8).toNat)
          case atStart => exact ⟨0, _, [], by omega, by simp, rfl, by simpa using HO.out, hI⟩
          case round =>
            clear hI ho
            obtain ⟨k, sp, E, hk, rfl, hE, ho, hI⟩ := hrel
            by_cases hk8 : k < 8
            · have HE := Lib.hid hE
              obtain ⟨A3, c3, rfl, _, _, hr3, _⟩ := Own.reads ho
              obtain ⟨x, hx⟩ : ∃ x, x = UInt8.ofNat (l.length * 8 / 2 ^ (56 - 8 * k) % 256) := ⟨_, rfl⟩
              have HX := Lib.hid hx
              have eb : ((l.length : Int) * 8 / 2 ^ (56 - 8 * k) % 256) = iu8 x := by rw [hx]; exact (iu8_ofNat_mod _).symm
              have hEl : (L ++ E).length = L.length + k := by rw [hE]; simp [Sha.eight_length]; omega
              obtain ⟨M, hM⟩ : ∃ M, M = L ++ E := ⟨_, rfl⟩
              rw [← hM] at ho hEl ⊢
              have HM := Lib.hid hM
              have hMle : M.length ≤ 208 := by omega
              have HEl := Lib.hid hEl
              have hKlt2 := hI.kk.lt
              have hlit : Bytes (wr.alloc (.cells #[.int .u8 (iu8 x)] 5)) (some ⟨wr.heap.size, 0, none⟩) [x] := bytes_lit wr _ [x]
              replace ho := OwnB.alloc ho (.cells #[.int .u8 (iu8 x)] 5)
              clear hE hx hEl hM hr3
              go_wp2_with (show wpList _ _ _ ((⟨some 47, _, _, _, _, _⟩ : Oper) :: _) _ _; refine wpList_append_bytes (o := ⟨some 47, _, _, _, _, _⟩) (by rfl) _ _ _ (by rfl) (K + 1) _ Try.underlying22 u8info (.slice A3 M.length c3) M sp (by rfl) ho (some ⟨wr.heap.size, 0, none⟩) 1 [x] (by rfl) hlit (by simp; omega) (by simp; omega) ?_; intro v3 w9 sp3 ho3 hg3 _ _; have hI3 := (hI.alloc (.cells #[.int .u8 (iu8 x)] 5)).grown hg3 (fun k hk => (Own.lt ho k hk).1); clear hlit ho hg3 hI)
              go_roundw
              case rel => exact ⟨k + 1, sp3, E ++ [x], by omega, by go_num, by rw [HE.out, HX.out, Sha.eight_take _ _ hk8], by rw [HM.out, List.append_assoc] at ho3; exact ho3, hI3⟩
              case measure => simp [intOf]; omega
            · obtain rfl : k = 8 := by omega
              obtain ⟨A4, c4, rfl, hc4, hc5, hr4, _⟩ := Own.reads ho
              have hge : ∀ ad, A4 = some ad → K < ad.block := fun ad hd => by
                have := (Own.lt ho ad.block (by rw [hd]; rfl)).1
                omega
              have hM0 : L ++ E = (Sha.pad l).drop (64 * t) := by
                rw [hE, List.take_of_length_le (by rw [Sha.eight_length]; omega), HL2.out, HL.out, Sha.pad, Sha.tail, List.drop_append_of_le_length ht]
                simp
              have hS0 : Sha.blks l Sha.init t = Sha.blks (Sha.pad l) Sha.init t := (Sha.blks_append l _ _ t ht).symm
              rw [hS0] at hI
              have hr5 : Bytes wr A4 (L ++ E) := hr4
              obtain ⟨M, hM⟩ : ∃ M, M = L ++ E := ⟨_, rfl⟩
              rw [hM0] at hM
              rw [hM0, ← hM] at hr5
              rw [hM0, ← hM] at hc4 ⊢
              have HM := Lib.hid hM
              clear hr4 ho hE hM hM0 hS0
              go_wp2
              go_loopw [6] (fun v wr => PadRel w H K l v wr) (fun v _ => lenOf v)
              case atStart => exact ⟨t, M, A4, c4, by rw [Sha.pad_length]; omega, HM.out, hc4, hc5, rfl, hr5, hge, hI⟩
              case round =>
                clear hI hr5 hge
                obtain ⟨j, M, A5, c5, hj, hM, hc6, hc7, rfl, hb5, hge, hI⟩ := hrel
                have hMl : M.length + 64 * j = (Sha.pad l).length := by rw [hM, List.length_drop]; omega
                have hp := Sha.pad_mod l
                have hpl : (Sha.pad l).length ≤ 140737488351400 := by rw [Sha.pad_length]; omega
                by_cases hpos : 0 < M.length
                · have h64' : 64 ≤ M.length := by omega
                  obtain ⟨b, off, rfl, hbl, hcell⟩ := hb5.at_ hpos
                  have HM2 := Lib.hid hM
                  have HMl := Lib.hid hMl
                  have HB := Lib.hid hb5
                  have HG := Lib.hid hge
                  have HC := Lib.hid hcell
                  have hMle : M.length ≤ 140737488351400 := by omega
                  clear hM hMl hb5 hge hcell hp
                  go_wp2_with (first
                    | (show wpList _ _ _ ((⟨some 53, _, _, _, _, _⟩ : Oper) :: _) _ _; refine wpList_load_blk (o := ⟨some 53, _, _, _, _, _⟩) hI.hh (by rfl) _ _ (by rfl) (by rfl) _ Try.underlying67 (by rfl) size8 (st8_size _) ?_)
                    | (show wpList _ _ _ ((⟨some 55, _, _, _, _, _⟩ : Oper) :: _) _ _; refine wpList_load_blk (o := ⟨some 55, _, _, _, _, _⟩) hI.kk (by rfl) _ _ (by rfl) (by rfl) _ Try.underlying64 (by rfl) size64 karr_size ?_)
                    | fail)
                  refine (block_any _ b off _ c5 M rfl h64' _ hbl HC.out).mono ?_
                  rintro e w9 ⟨rfl, hb9⟩
                  replace hI := hI.below hb9
                  have hb6 := Bytes.below HB.out hb9
                  have HB6 := Lib.hid hb6
                  clear hb6
                  go_wp2_with (show wpList _ _ _ ((⟨none, .store _ (.tmp 3) (.tmp 56), _, _, _, _⟩ : Oper) :: _) _ _; refine wpList_store_blk (o := ⟨none, _, _, _, _, _⟩) hI.hh (by rfl) _ _ _ (by rfl) (by rfl) (st8 (Sha.blk (Sha.blks (Sha.pad l) Sha.init j) M 0)) (by rfl) size8 (st8_size _) (st8_size _) (st8_one _) ?_; intro w6 h6 hu6; have hI6 := hI.stored h6 hu6; have hb7 := HB6.out.upd hu6 (fun ad hd => by have h1 := HG.out ad hd; have h2 := hI.h2; omega); have HB7 := Lib.hid hb7; clear hb7 hu6 hI h6)
                  all_goals
                    go_roundw
                    case rel =>
                      have hlen := HMl.out
                      unfold PadRel
                      refine ⟨j + 1, M.drop 64, _, c5 - 64, by omega, ?_, by simp; omega, by omega, ?_, HB7.out.drop (k := 64) (cap := c5) (by omega), block_cut HG.out, ?_⟩
                      · rw [HM2.out, List.drop_drop]; congr 1
                      · rw [List.length_drop]; simp [Addr.add_lit, *]
                      · have : Sha.blk (Sha.blks (Sha.pad l) Sha.init j) M 0 = Sha.blks (Sha.pad l) Sha.init (j + 1) := by rw [HM2.out, Sha.blk_drop]; rfl
                        rw [← this]; exact hI6
                    case measure => simp [lenOf]; omega
                · have hM0 : M.length = 0 := by omega
                  have HS := Lib.hid (show j = (Sha.pad l).length / 64 by omega)
                  clear hM hMl hp hpl hb5 hge
                  obtain ⟨x, hx⟩ : ∃ x, x = Sha.blks (Sha.pad l) Sha.init j := ⟨_, rfl⟩
                  rw [← hx] at hI
                  have HX := Lib.hid (show Sha.sum l = Sha.out x by rw [hx, HS.out]; rfl)
                  clear hx
                  have hD : Blk (wr.alloc (.cells zero16 23)) wr.heap.size 23 (darr x 0) := (Blk.new _ _ _).sub (darr_zero x)
                  have hKD := hI.kk.lt
                  have hI2 := hI.alloc (.cells zero16 23)
                  go_wp2
                  generalize wr.heap.size = D at hD hKD ⊢
                  go_loopw [59] (fun v wr => ∃ i : Nat, i ≤ 4 ∧ v = .int .i64 i ∧ SInv 67 w wr H K x ∧ Blk wr D 23 (darr x i)) (fun v _ => 4 - (intOf v).toNat)
                  case atStart => exact ⟨0, by omega, rfl, hI2, hD⟩
                  case round =>
                    clear hI hI2 hD
                    obtain ⟨i, hi, rfl, hI, hD⟩ := hrel
                    by_cases hi4 : i < 4
                    · obtain ⟨y, hy⟩ : ∃ y, y = Sha.get x i := ⟨_, rfl⟩
                      have cy := (hI.hh.cell i).trans (st8_get x i (by omega))
                      rw [← hy] at cy
                      have HY := Lib.hid hy; clear hy
                      have b0 : iu32 y / 16777216 % 256 = iu8 (Sha.byte y 0) := byte_eq y 0
                      have b1 : iu32 y / 65536 % 256 = iu8 (Sha.byte y 1) := byte_eq y 1
                      have b2 : iu32 y / 256 % 256 = iu8 (Sha.byte y 2) := byte_eq y 2
                      have b3 : iu32 y % 256 = iu8 (Sha.byte y 3) := by have := byte_eq y 3; simpa using this
                      have d0 := (hD.cell (4 * i)).trans (arr_at _ (show 4 * i < 16 by omega))
                      have d1 := (hD.cell (4 * i + 1)).trans (arr_at _ (show 4 * i + 1 < 16 by omega))
                      have d2 := (hD.cell (4 * i + 2)).trans (arr_at _ (show 4 * i + 2 < 16 by omega))
                      have d3 := (hD.cell (4 * i + 3)).trans (arr_at _ (show 4 * i + 3 < 16 by omega))
                      have f0 := hD.frozen (4 * i)
                      have f1 := hD.frozen (4 * i + 1)
                      have f2 := hD.frozen (4 * i + 2)
                      have f3 := hD.frozen (4 * i + 3)
                      go_wp2
                      go_roundw
                      case rel =>
                        refine ⟨i + 1, by omega, by go_num, ?_, ?_⟩
                        · exact (((hI.off hKD _).off hKD _).off hKD _).off hKD _
                        · have h1 := (((hD.set_ (4 * i) (.int .u8 (iu8 (Sha.byte y 0)))).set_ (4 * i + 1) (.int .u8 (iu8 (Sha.byte y 1)))).set_ (4 * i + 2) (.int .u8 (iu8 (Sha.byte y 2)))).set_ (4 * i + 3) (.int .u8 (iu8 (Sha.byte y 3)))
                          rw [darr_set x i y HY.out] at h1
                          exact h1
                      case measure => simp [intOf]; omega
                    · obtain rfl : i = 4 := by omega
                      rw [darr_all] at hD
                      go_wp2_with (first
                        | (show wpList _ _ _ ((⟨some 91, _, _, _, _, _⟩ : Oper) :: _) _ _; refine wpList_load_blk (o := ⟨some 91, _, _, _, _, _⟩) hD (by rfl) _ _ (by rfl) (by rfl) _ Try.underlying23 (by rfl) size16 (by simp [Sha.out]) ?_)
                        | (show wpList _ _ _ ((⟨none, .store _ (.tmp 2) (.tmp 91), _, _, _, _⟩ : Oper) :: _) _ _; refine wpList_store_blk (o := ⟨none, _, _, _, _, _⟩) hI.rr (by rfl) _ _ _ (by rfl) (by rfl) ((Sha.out x).map u8v).toArray (by rfl) size16 (arr_size _ _) (by simp [Sha.out]) (u8_all _) ?_; intro w6 h6 hu6; have hbel := hI.bel.upd hu6 (Nat.le_refl _); clear hu6 hI hD))
                      refine bodyPost_ret (results_cell_row (by rfl) _ _ _ _ _ _ _ (by rfl) h6 Try.underlying23 (by rfl) (size16.trans (by simp [Sha.out]))) rfl ⟨?_, hbel⟩
                      rw [HX.out]
end Go.Proofs.Ytfpcldnefpmgcaa
