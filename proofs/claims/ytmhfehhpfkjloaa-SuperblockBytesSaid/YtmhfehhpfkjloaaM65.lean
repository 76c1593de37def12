/- The program's seal of bytes answers what the plain function says. Condition: the bytes can be read and their room is at most 2^47 - 4096. -/
import Derived.Test.YtmhfehhpfkjloaaM64
import Derived.Stop.BytesEq
import Derived.Deep.MidRow
namespace Go.Proofs.Ytmhfehhpfkjloaa
open Go.RowKit
set_option maxHeartbeats 400000 in
set_option maxRecDepth 100000 in
theorem constants_any (w : World) : Calls Try.prog 105 #[] w fun e w' => e = .returned (.agg karr) ∧ Below w.heap.size w w' := by
  have a64 := alloc64
  have hz := Blk.new w 158 zero64
  go_enter Try.func105, Try.ntmps105
  go_wp2_with (first | (show wpList _ _ _ ((⟨some 1, .build _ _, _, _, _, _⟩ : Oper) :: _) _ _; (refine wpList_run (o := ⟨some 1, .build _ _, _, _, _, _⟩) (.agg karr) (by rfl) (by kernel_rfl) ?_)) | (show wpList _ _ _ ((⟨none, _, _, _, _, _⟩ : Oper) :: _) _ _; ((refine wpList_store_blk (o := ⟨none, _, _, _, _, _⟩) hz (by rfl) _ _ _ (by rfl) (by rfl) karr (by kernel_rfl) size64 zero64_size karr_size karr_one ?_; intro w1 h1 hu1))))
  refine bodyPost_ret (results_cell_row (by rfl) _ _ _ _ _ _ _ (by rfl) h1 Try.underlying158 (by rfl) size64) rfl ⟨rfl, ((Below.refl _ _).alloc (Nat.le_refl _) _).upd hu1 (Nat.le_refl _)⟩
/-- What holds ahead of each block of the padded rest. -/
def PadRel (w : World) (H K : Nat) (l : List UInt8) (v : Value) (wr : World) : Prop :=
  ∃ (j : Nat) (M : List UInt8) (A' : Option Addr) (c' : Nat), 64 * j ≤ (Sha.pad l).length ∧ M = (Sha.pad l).drop (64 * j) ∧ M.length ≤ c' ∧ c' ≤ maxLen ∧ v = .slice A' M.length c' ∧ Bytes wr A' M ∧ (∀ ad, A' = some ad → K < ad.block) ∧ SInv 157 w wr H K (Sha.blks (Sha.pad l) Sha.init j)
set_option maxHeartbeats 1000000 in
set_option maxRecDepth 100000 in
theorem sum_any (A : Option Addr) (c : Nat) (l : List UInt8) (hc : l.length ≤ c) (hc2 : l.length ≤ 140737488351232 ∧ c ≤ 9223372036854775807) (w : World) (hb : Bytes w A l) :
    Calls Try.prog 94 #[.slice A l.length c] w fun e w' => e = .returned (.agg ((Sha.sum l).map u8v).toArray) ∧ Below w.heap.size w w' := by
  have a64 := alloc64
  have a16 := alloc16
  have hz8 : Blk ((w.alloc (.cells zero16 105)).alloc (.cells #[.int .u32 0, .int .u32 0, .int .u32 0, .int .u32 0, .int .u32 0, .int .u32 0, .int .u32 0, .int .u32 0] 157)) (w.heap.size + 1) 157 zero8 := Blk.new' _ _ _ (by simp)
  have hz16 : Blk ((w.alloc (.cells zero16 105)).alloc (.cells #[.int .u32 0, .int .u32 0, .int .u32 0, .int .u32 0, .int .u32 0, .int .u32 0, .int .u32 0, .int .u32 0] 157)) w.heap.size 105 zero16 := (Blk.new _ _ _).alloc _
  have hbz : Below w.heap.size w ((w.alloc (.cells zero16 105)).alloc (.cells #[.int .u32 0, .int .u32 0, .int .u32 0, .int .u32 0, .int .u32 0, .int .u32 0, .int .u32 0, .int .u32 0] 157)) := ((Below.refl _ _).alloc (Nat.le_refl _) _).alloc (by simp) _
  go_enter Try.func94, Try.ntmps94
  go_wp2_with (first
    | (show wpList _ _ _ ((⟨some 11, .build _ _, _, _, _, _⟩ : Oper) :: _) _ _; refine wpList_run (o := ⟨some 11, .build _ _, _, _, _, _⟩) (.agg (st8 Sha.init)) (by rfl) (by kernel_rfl) ?_)
    | (show wpList _ _ _ ((⟨none, .store _ (.tmp 3) (.tmp 11), _, _, _, _⟩ : Oper) :: _) _ _; go_must (refine wpList_store_blk (o := ⟨none, _, _, _, _, _⟩) hz8 (by rfl) _ _ _ (by rfl) (by rfl) (st8 Sha.init) (by rfl) size8 zero8_size (st8_size _) (st8_one _) ?_; intro w1 h1 hu1; replace hz16 := hz16.upd hu1 (by omega); replace hbz := hbz.upd hu1 (by omega); clear hu1 hz8)))
  refine (constants_any _).mono ?_
  rintro e w2 ⟨rfl, hb2⟩
  have hlt2 := (h1.below hb2 h1.lt).lt
  have hk64 := Blk.new w2 158 zero64
  replace h1 := (h1.below hb2 h1.lt).alloc (.cells zero64 158)
  replace hz16 := (hz16.below hb2 hz16.lt).alloc (.cells zero64 158)
  replace hbz := (hbz.trans (hb2.mono hbz.size)).alloc (by omega) (.cells zero64 158)
  go_wp2_with (show wpList _ _ _ ((⟨none, .store _ (.tmp 4) (.tmp 12), _, _, _, _⟩ : Oper) :: _) _ _; go_must (refine wpList_store_blk (o := ⟨none, _, _, _, _, _⟩) hk64 (by rfl) _ _ _ (by rfl) (by rfl) karr (by rfl) size64 zero64_size karr_size karr_one ?_; intro w3 h3 hu3; have hI : SInv 157 w w3 (w.heap.size + 1) w2.heap.size Sha.init := ⟨h1.upd hu3 (by omega), h3, hz16.upd hu3 (by omega), by omega, hlt2, hbz.upd hu3 (by omega)⟩; clear hu3 h1 hz16 hbz hk64 h3))
  clear hb2 hlt2
  generalize w2.heap.size = K at hI ⊢
  generalize hH : w.heap.size + 1 = H at hI ⊢
  clear hH
  go_loopw [0] (fun v wr => ∃ (t : Nat) (l' : List UInt8) (A' : Option Addr) (c' : Nat), 64 * t ≤ l.length ∧ l' = l.drop (64 * t) ∧ l'.length ≤ c' ∧ c' ≤ c ∧ v = .slice A' l'.length c' ∧ Bytes w A' l' ∧ SInv 157 w wr H K (Sha.blks l Sha.init t)) (fun v _ => lenOf v)
  case atStart => exact ⟨0, l, A, c, by omega, by simp, hc, Nat.le_refl _, rfl, hb, hI⟩
  case round =>
    clear hI
    obtain ⟨t, l', A', c', ht, hl', hc', hcc, rfl, hb', hI⟩ := hrel
    have HL := Lib.hid hl'
    have hlen : l'.length + 64 * t = l.length := by rw [hl']; simp; omega
    have HN := Lib.hid hlen
    clear hl' hlen
    by_cases h64 : 64 ≤ l'.length
    · obtain ⟨b, off, rfl, hbl, hcell⟩ := hb'.at_ (by omega)
      have HB := Lib.hid hb'; clear hb'
      have HC := Lib.hid hcell; clear hcell
      go_wp2
      have hst : ∀ w', Below wr.heap.size wr w' → Calls Try.prog 106 #[.agg (st8 (Sha.blks l Sha.init t)), .slice (some ⟨b, off, none⟩) l'.length c', .agg karr] w' fun e w'' => e = .returned (.agg (st8 (Sha.blk (Sha.blks l Sha.init t) l' 0))) ∧ Below wr.heap.size wr w'' := by
        intro w' hw'
        have hI' := hI.below hw'
        refine (block_any _ b off _ c' l' rfl h64 w' (by have := hI'.bel.size; omega) (fun j hj => ?_)).mono fun e w'' h => ⟨h.1, hw'.trans (h.2.mono hw'.size)⟩
        rw [hI'.bel.cell (p := ⟨b, off + j, none⟩) hbl]; exact HC.out j hj
      refine wp_region_mix (Below wr.heap.size wr) [1, 4, 5] [0, 2, 3] 6 [7] (by kernel_rfl) (by kernel_rfl) (fun c a a' w h q => ⟨h ▸ q.1, q.2⟩) (Below.refl _ _).drew ?_
      dsimp only [List.filterMap, List.getElem?_cons_zero, List.getElem?_cons_succ]
      repeat (go_big_quiet_step (fail))
      refine wpQuiet_nil ?_
      refine wpQuiet_load_blk (fun w' hw' => (hI.below hw').hh) (by rfl) _ _ (by rfl) (by rfl) _ Try.underlying157 (by rfl) size8 (st8_size _) ?_
      simp only [Act.put, List.setIfInBounds_toArray, List.set_cons_zero, List.set_cons_succ]
      refine wpQuiet_load_blk (fun w' hw' => (hI.below hw').kk) (by rfl) _ _ (by rfl) (by rfl) _ Try.underlying158 (by rfl) size64 karr_size ?_
      simp only [Act.put, List.setIfInBounds_toArray, List.set_cons_zero, List.set_cons_succ]
      refine wpQuiet_call Try.call106 (by rfl) _ _ (by rfl) _ (by rfl) _ hst ?_
      simp only [Act.put, List.setIfInBounds_toArray, List.set_cons_zero, List.set_cons_succ]
      refine wpQuiet_nil ?_
      intro w5 hw5
      replace hI := hI.below hw5
      clear hw5 hst
      go_wp2_with (show wpList _ _ _ ((⟨none, .store _ (.tmp 3) (.tmp 21), _, _, _, _⟩ : Oper) :: _) _ _; go_must (refine wpList_store_blk (o := ⟨none, _, _, _, _, _⟩) hI.hh (by rfl) _ _ _ (by rfl) (by rfl) (st8 (Sha.blk (Sha.blks l Sha.init t) l' 0)) (by rfl) size8 (st8_size _) (st8_size _) (st8_one _) ?_; intro w6 h6 hu6; have hI6 := hI.stored h6 hu6; clear hu6 hI h6))
      go_roundw
      case rel =>
        have hlen := HN.out
        refine ⟨t + 1, l'.drop 64, _, c' - 64, by omega, ?_, by simp; omega, by omega, ?_, HB.out.drop (k := 64) (cap := c') (by omega), ?_⟩
        · rw [HL.out, List.drop_drop]; congr 1
        · rw [List.length_drop]; rfl
        · have : Sha.blk (Sha.blks l Sha.init t) l' 0 = Sha.blks l Sha.init (t + 1) := by rw [HL.out, Sha.blk_drop]; rfl
          rw [← this]; exact hI6
      case measure => simp [lenOf]; omega
    · have hz : Sha.zeros l'.length = Sha.zeros l.length := by rw [← HN.out, Sha.zeros_add]
      have HZ := Lib.hid hz; clear hz
      have hb7 := Bytes.below hb' hI.bel
      clear hb'
      have hKlt := hI.kk.lt
      go_wp2_with (first
        | (show wpList _ _ _ ((⟨some 25, _, _, _, _, _⟩ : Oper) :: _) _ _; go_must (refine wpList_append_bytes (o := ⟨some 25, _, _, _, _, _⟩) (by rfl) _ _ _ (by rfl) (K + 1) _ Try.underlying43 u8info (.slice none 0 0) [] [] (by rfl) (OwnsC.nil _ _ _ _) A' c' l' (by rfl) hb7 (by simp; omega) hKlt ?_; intro v1 w7 sp1 ho1 hg1 ha1 hn1; replace hI := hI.grown hg1 (fun k hk => by simp [Value.ownBlock] at hk); clear hb7 hn1 hg1; replace ho1 := ho1.alloc (.cells #[.int .u8 128] 5); have hlit : Bytes (w7.alloc (.cells #[.int .u8 128] 5)) (some ⟨w7.heap.size, 0, none⟩) [128] := bytes_lit w7 _ [128]))
        | (show wpList _ _ _ ((⟨some 27, _, _, _, _, _⟩ : Oper) :: _) _ _; go_must (refine wpList_append_bytes (o := ⟨some 27, _, _, _, _, _⟩) (by rfl) _ _ _ (by rfl) (K + 1) _ Try.underlying43 u8info v1 ([] ++ l') sp1 (by rfl) ho1 (some ⟨w7.heap.size, 0, none⟩) 1 [128] (by rfl) hlit (by simp; omega) (by have := hI.kk.lt; simp; omega) ?_; intro v2 w8 sp2 ho2 hg2 _ _; replace hI := (hI.alloc (.cells #[.int .u8 128] 5)).grown hg2 (fun k hk => (OwnsC.lt ho1 k hk).1); clear hlit ho1 hg2 ha1)))
      have ho3 : OwnB 5 w8 (K + 1) v2 (l' ++ 128 :: List.replicate 0 0) sp2 := by simpa using ho2
      clear ho2
      go_loopw [6] (fun v wr => ∃ (i : Nat) (L sp : List UInt8), i ≤ Sha.zeros l.length ∧ L = l' ++ 128 :: List.replicate i 0 ∧ OwnB 5 wr (K + 1) v L sp ∧ SInv 157 w wr H K (Sha.blks l Sha.init t)) (fun v _ => 300 - lenOf v)
      case atStart => exact ⟨0, _, _, by omega, rfl, ho3, hI⟩
      case round =>
        clear hI ho3
        obtain ⟨i, L, sp, hi, hL, ho, hI⟩ := hrel
        obtain ⟨A2, c2, rfl, hc1, hc3, hr1, _⟩ := OwnsC.reads ho
        have hLlen : L.length = l'.length + 1 + i := by rw [hL]; simp; omega
        have HL2 := Lib.hid hL
        have HO := Lib.hid ho
        have hzl := Sha.zeros_lt l.length
        have hz := HZ.out
        have hl64 : l'.length < 64 := by omega
        by_cases hlt : i < Sha.zeros l.length
        · have ht1 : (((L.length : Nat) : Int) % 64 != 56) = true := by rw [bne_iff_ne]; have := Sha.zeros_not hl64 (by rw [hz]; exact hlt); rw [← hLlen] at this; omega
          have hKlt := hI.kk.lt
          have hLle : L.length ≤ 200 := by omega
          have HLl := Lib.hid hLlen
          clear hL hLlen hz hr1
          replace ho := ho.alloc (.cells #[.int .u8 0] 5)
          have hlit : Bytes (wr.alloc (.cells #[.int .u8 0] 5)) (some ⟨wr.heap.size, 0, none⟩) [0] := bytes_lit wr _ [0]
          go_wp2_with (show wpList _ _ _ ((⟨some 34, _, _, _, _, _⟩ : Oper) :: _) _ _; refine wpList_append_bytes (o := ⟨some 34, _, _, _, _, _⟩) (by rfl) _ _ _ (by rfl) (K + 1) _ Try.underlying43 u8info (.slice A2 L.length c2) L sp (by rfl) ho (some ⟨wr.heap.size, 0, none⟩) 1 [0] (by rfl) hlit (by simp; omega) (by simp; omega) ?_; intro v3 w9 sp3 ho3 hg3 _ _; have hI3 := (hI.alloc (.cells #[.int .u8 0] 5)).grown hg3 (fun k hk => (OwnsC.lt ho k hk).1); clear hlit ho hg3 hI)
          obtain ⟨A3, c3, rfl, _⟩ := OwnsC.reads ho3
          go_roundw
          case rel => exact ⟨i + 1, _, _, by omega, by rw [HL2.out]; simp [List.replicate_succ'], ho3, hI3⟩
          case measure => simp [lenOf]; omega
        · obtain rfl : i = Sha.zeros l.length := by omega
          have ht1 : (((L.length : Nat) : Int) % 64 != 56) = false := by
            have := Sha.zeros_is hl64
            rw [hz, ← hLlen] at this
            have h2 : ((L.length : Nat) : Int) % 64 = 56 := by omega
            rw [h2]; rfl
          have hLle : L.length ≤ 200 := by omega
          clear hL hLlen hz hr1
          go_wp2
          go_loopw [6, 7] (fun v i wr => ∃ (k : Nat) (sp : List UInt8) (E : List UInt8), k ≤ 8 ∧ i = .int .i64 (56 - 8 * (k : Int)) ∧ E = (Sha.eight (l.length * 8)).take k ∧ OwnB 5 wr (K + 1) v (L ++ E) sp ∧ SInv 157 w wr H K (Sha.blks l Sha.init t)) (fun _ i _ => (intOf i + 8).toNat)
          case atStart => exact ⟨0, _, [], by omega, by simp, rfl, by simpa using HO.out, hI⟩
          case round =>
            clear hI ho
            obtain ⟨k, sp, E, hk, rfl, hE, ho, hI⟩ := hrel
            by_cases hk8 : k < 8
            · have HE := Lib.hid hE
              obtain ⟨A3, c3, rfl, _, _, hr3, _⟩ := OwnsC.reads ho
              obtain ⟨x, hx⟩ : ∃ x, x = UInt8.ofNat (l.length * 8 / 2 ^ (56 - 8 * k) % 256) := ⟨_, rfl⟩
              have HX := Lib.hid hx
              have eb : ((l.length : Int) * 8 / 2 ^ (56 - 8 * k) % 256) = iu8 x := by rw [hx]; exact (iu8_ofNat_mod _).symm
              have hEl : (L ++ E).length = L.length + k := by rw [hE]; simp [Sha.eight_length]; omega
              obtain ⟨M, hM⟩ : ∃ M, M = L ++ E := ⟨_, rfl⟩
              rw [← hM] at ho hEl ⊢
              have HM := Lib.hid hM
              have hMle : M.length ≤ 208 := by omega
              have HEl := Lib.hid hEl
              have hKlt2 := hI.kk.lt
              have hlit : Bytes (wr.alloc (.cells #[.int .u8 (iu8 x)] 5)) (some ⟨wr.heap.size, 0, none⟩) [x] := bytes_lit wr _ [x]
              replace ho := OwnB.alloc ho (.cells #[.int .u8 (iu8 x)] 5)
              clear hE hx hEl hM hr3
              go_wp2_with (show wpList _ _ _ ((⟨some 47, _, _, _, _, _⟩ : Oper) :: _) _ _; refine wpList_append_bytes (o := ⟨some 47, _, _, _, _, _⟩) (by rfl) _ _ _ (by rfl) (K + 1) _ Try.underlying43 u8info (.slice A3 M.length c3) M sp (by rfl) ho (some ⟨wr.heap.size, 0, none⟩) 1 [x] (by rfl) hlit (by simp; omega) (by simp; omega) ?_; intro v3 w9 sp3 ho3 hg3 _ _; have hI3 := (hI.alloc (.cells #[.int .u8 (iu8 x)] 5)).grown hg3 (fun k hk => (OwnsC.lt ho k hk).1); clear hlit ho hg3 hI)
              go_roundw
              case rel => exact ⟨k + 1, sp3, E ++ [x], by omega, by go_num, by rw [HE.out, HX.out, Sha.eight_take _ _ hk8], by rw [HM.out, List.append_assoc] at ho3; exact ho3, hI3⟩
              case measure => simp [intOf]; omega
            · obtain rfl : k = 8 := by omega
              obtain ⟨A4, c4, rfl, hc4, hc5, hr4, _⟩ := OwnsC.reads ho
              have hge : ∀ ad, A4 = some ad → K < ad.block := fun ad hd => by
                have := (OwnsC.lt ho ad.block (by rw [hd]; rfl)).1
                omega
              have hM0 : L ++ E = (Sha.pad l).drop (64 * t) := by
                rw [hE, List.take_of_length_le (by rw [Sha.eight_length]; omega), HL2.out, HL.out, Sha.pad, Sha.tail, List.drop_append_of_le_length ht]
                simp
              have hS0 : Sha.blks l Sha.init t = Sha.blks (Sha.pad l) Sha.init t := (Sha.blks_append l _ _ t ht).symm
              rw [hS0] at hI
              have hr5 : Bytes wr A4 (L ++ E) := hr4
              obtain ⟨M, hM⟩ : ∃ M, M = L ++ E := ⟨_, rfl⟩
              rw [hM0] at hM
              rw [hM0, ← hM] at hr5
              rw [hM0, ← hM] at hc4 ⊢
              have HM := Lib.hid hM
              clear hr4 ho hE hM hM0 hS0
              go_wp2
              go_loopw [6] (fun v wr => PadRel w H K l v wr) (fun v _ => lenOf v)
              case atStart => exact ⟨t, M, A4, c4, by rw [Sha.pad_length]; omega, HM.out, hc4, hc5, rfl, hr5, hge, hI⟩
              case round =>
                clear hI hr5 hge
                obtain ⟨j, M, A5, c5, hj, hM, hc6, hc7, rfl, hb5, hge, hI⟩ := hrel
                have hMl : M.length + 64 * j = (Sha.pad l).length := by rw [hM, List.length_drop]; omega
                have hp := Sha.pad_mod l
                have hpl : (Sha.pad l).length ≤ 140737488351400 := by rw [Sha.pad_length]; omega
                by_cases hpos : 0 < M.length
                · have h64' : 64 ≤ M.length := by omega
                  obtain ⟨b, off, rfl, hbl, hcell⟩ := hb5.at_ hpos
                  have HM2 := Lib.hid hM
                  have HMl := Lib.hid hMl
                  have HB := Lib.hid hb5
                  have HG := Lib.hid hge
                  have HC := Lib.hid hcell
                  have hMle : M.length ≤ 140737488351400 := by omega
                  clear hM hMl hb5 hge hcell hp
                  go_wp2_with (first
                    | (show wpList _ _ _ ((⟨some 53, _, _, _, _, _⟩ : Oper) :: _) _ _; refine wpList_load_blk (o := ⟨some 53, _, _, _, _, _⟩) hI.hh (by rfl) _ _ (by rfl) (by rfl) _ Try.underlying157 (by rfl) size8 (st8_size _) ?_)
                    | (show wpList _ _ _ ((⟨some 55, _, _, _, _, _⟩ : Oper) :: _) _ _; refine wpList_load_blk (o := ⟨some 55, _, _, _, _, _⟩) hI.kk (by rfl) _ _ (by rfl) (by rfl) _ Try.underlying158 (by rfl) size64 karr_size ?_)
                    | fail)
                  refine (block_any _ b off _ c5 M rfl h64' _ hbl HC.out).mono ?_
                  rintro e w9 ⟨rfl, hb9⟩
                  replace hI := hI.below hb9
                  have hb6 := Bytes.below HB.out hb9
                  have HB6 := Lib.hid hb6
                  clear hb6
                  go_wp2_with (show wpList _ _ _ ((⟨none, .store _ (.tmp 3) (.tmp 56), _, _, _, _⟩ : Oper) :: _) _ _; refine wpList_store_blk (o := ⟨none, _, _, _, _, _⟩) hI.hh (by rfl) _ _ _ (by rfl) (by rfl) (st8 (Sha.blk (Sha.blks (Sha.pad l) Sha.init j) M 0)) (by rfl) size8 (st8_size _) (st8_size _) (st8_one _) ?_; intro w6 h6 hu6; have hI6 := hI.stored h6 hu6; have hb7 := HB6.out.upd hu6 (fun ad hd => by have h1 := HG.out ad hd; have h2 := hI.h2; omega); have HB7 := Lib.hid hb7; clear hb7 hu6 hI h6)
                  all_goals
                    go_roundw
                    case rel =>
                      have hlen := HMl.out
                      unfold PadRel
                      refine ⟨j + 1, M.drop 64, _, c5 - 64, by omega, ?_, by simp; omega, by omega, ?_, HB7.out.drop (k := 64) (cap := c5) (by omega), block_cut HG.out, ?_⟩
                      · rw [HM2.out, List.drop_drop]; congr 1
                      · rw [List.length_drop]; simp [Addr.add_lit, *]
                      · have : Sha.blk (Sha.blks (Sha.pad l) Sha.init j) M 0 = Sha.blks (Sha.pad l) Sha.init (j + 1) := by rw [HM2.out, Sha.blk_drop]; rfl
                        rw [← this]; exact hI6
                    case measure => simp [lenOf]; omega
                · have hM0 : M.length = 0 := by omega
                  have HS := Lib.hid (show j = (Sha.pad l).length / 64 by omega)
                  clear hM hMl hp hpl hb5 hge
                  obtain ⟨x, hx⟩ : ∃ x, x = Sha.blks (Sha.pad l) Sha.init j := ⟨_, rfl⟩
                  rw [← hx] at hI
                  have HX := Lib.hid (show Sha.sum l = Sha.out x by rw [hx, HS.out]; rfl)
                  clear hx
                  have hD : Blk (wr.alloc (.cells zero16 105)) wr.heap.size 105 (darr x 0) := (Blk.new _ _ _).sub (darr_zero x)
                  have hKD := hI.kk.lt
                  have hI2 := hI.alloc (.cells zero16 105)
                  go_wp2
                  generalize wr.heap.size = D at hD hKD ⊢
                  go_loopw [59] (fun v wr => ∃ i : Nat, i ≤ 4 ∧ v = .int .i64 i ∧ SInv 157 w wr H K x ∧ Blk wr D 105 (darr x i)) (fun v _ => 4 - (intOf v).toNat)
                  case atStart => exact ⟨0, by omega, rfl, hI2, hD⟩
                  case round =>
                    clear hI hI2 hD
                    obtain ⟨i, hi, rfl, hI, hD⟩ := hrel
                    by_cases hi4 : i < 4
                    · obtain ⟨y, hy⟩ : ∃ y, y = Sha.get x i := ⟨_, rfl⟩
                      have cy := (hI.hh.cell i).trans (st8_get x i (by omega))
                      rw [← hy] at cy
                      have HY := Lib.hid hy; clear hy
                      have b0 : iu32 y / 16777216 % 256 = iu8 (Sha.byte y 0) := byte_eq y 0
                      have b1 : iu32 y / 65536 % 256 = iu8 (Sha.byte y 1) := byte_eq y 1
                      have b2 : iu32 y / 256 % 256 = iu8 (Sha.byte y 2) := byte_eq y 2
                      have b3 : iu32 y % 256 = iu8 (Sha.byte y 3) := by have := byte_eq y 3; simpa using this
                      have d0 := (hD.cell (4 * i)).trans (arr_at _ (show 4 * i < 16 by omega))
                      have d1 := (hD.cell (4 * i + 1)).trans (arr_at _ (show 4 * i + 1 < 16 by omega))
                      have d2 := (hD.cell (4 * i + 2)).trans (arr_at _ (show 4 * i + 2 < 16 by omega))
                      have d3 := (hD.cell (4 * i + 3)).trans (arr_at _ (show 4 * i + 3 < 16 by omega))
                      have f0 := hD.frozen (4 * i)
                      have f1 := hD.frozen (4 * i + 1)
                      have f2 := hD.frozen (4 * i + 2)
                      have f3 := hD.frozen (4 * i + 3)
                      go_wp2
                      go_roundw
                      case rel =>
                        refine ⟨i + 1, by omega, by go_num, ?_, ?_⟩
                        · exact (((hI.off hKD _).off hKD _).off hKD _).off hKD _
                        · have h1 := (((hD.set_ (4 * i) (.int .u8 (iu8 (Sha.byte y 0)))).set_ (4 * i + 1) (.int .u8 (iu8 (Sha.byte y 1)))).set_ (4 * i + 2) (.int .u8 (iu8 (Sha.byte y 2)))).set_ (4 * i + 3) (.int .u8 (iu8 (Sha.byte y 3)))
                          rw [darr_set x i y HY.out] at h1
                          exact h1
                      case measure => simp [intOf]; omega
                    · obtain rfl : i = 4 := by omega
                      rw [darr_all] at hD
                      go_wp2_with (first
                        | (show wpList _ _ _ ((⟨some 91, _, _, _, _, _⟩ : Oper) :: _) _ _; refine wpList_load_blk (o := ⟨some 91, _, _, _, _, _⟩) hD (by rfl) _ _ (by rfl) (by rfl) _ Try.underlying105 (by rfl) size16 (by simp [Sha.out]) ?_)
                        | (show wpList _ _ _ ((⟨none, .store _ (.tmp 2) (.tmp 91), _, _, _, _⟩ : Oper) :: _) _ _; refine wpList_store_blk (o := ⟨none, _, _, _, _, _⟩) hI.rr (by rfl) _ _ _ (by rfl) (by rfl) ((Sha.out x).map u8v).toArray (by rfl) size16 (arr_size _ _) (by simp [Sha.out]) (u8_all _) ?_; intro w6 h6 hu6; have hbel := hI.bel.upd hu6 (Nat.le_refl _); clear hu6 hI hD))
                      refine bodyPost_ret (results_cell_row (by rfl) _ _ _ _ _ _ _ (by rfl) h6 Try.underlying105 (by rfl) (size16.trans (by simp [Sha.out]))) rfl ⟨?_, hbel⟩
                      rw [HX.out]
end Go.Proofs.Ytmhfehhpfkjloaa

/- The document's mixing in of a block answers what the plain function says. Condition: there are 64 bytes from the place on. -/
namespace Go.Proofs.Ytmhfehhpfkjloaa
open Go.RowKit
theorem size8r : (Try.prog.info? 156).map (·.size) = some 8 := by kernel_rfl
set_option maxHeartbeats 1000000 in
set_option maxRecDepth 100000 in
theorem rblock_any (hs : Sha.St) (b off n c : Nat) (bs : List UInt8) (at_ : Nat) (hn : n = bs.length) (h64 : at_ + 64 ≤ n) (_hn2 : n ≤ 140737488400000)
   (w : World) (hbl : b < w.heap.size) (hb : ∀ j, j < n → w.cell? ⟨b, off + j, none⟩ = some (.int .u8 (iu8 (bs.getD j 0)))) :
    Calls Try.prog 110 #[.agg (st8 hs), .agg karr, .slice (some ⟨b, off, none⟩) n c, .int .i64 at_] w fun e w' => e = .returned (.agg (st8 (Sha.blk hs bs at_))) ∧ Below w.heap.size w w' := by
  have a64 := alloc64
  have HN := Lib.hid hn; clear hn
  have HB := Lib.hid hb; clear hb
  go_enter Try.func110, Try.ntmps110
  go_wp2
  go_loopw [10] (fun i wr => ∃ t : Nat, t ≤ 64 ∧ i = .int .i64 t ∧ BInv 156 w wr hs (Sha.word bs at_) t) (fun i _ => 64 - (intOf i).toNat)
  case atStart => exact ⟨0, by omega, rfl, BInv.new _ w hs _⟩
  case round =>
    obtain ⟨t, ht, rfl, hI⟩ := hrel
    by_cases hlt : t < 16
    · have hlt64 : t < 64 := by omega
      go_wp2
      go_loopw [11] (fun i wr => ∃ k : Nat, k ≤ 4 ∧ i = .int .i64 k ∧ PInv 156 w wr hs (Sha.word bs at_) t (Sha.part bs at_ t k)) (fun i _ => 4 - (intOf i).toNat)
      case atStart => exact ⟨0, by omega, rfl, hI.part⟩
      case round =>
        clear hI
        obtain ⟨k, hk, rfl, hI⟩ := hrel
        by_cases hk4 : k < 4
        · obtain ⟨x0, h0⟩ : ∃ x, x = bs.getD (at_ + 4 * t + k) 0 := ⟨_, rfl⟩
          obtain ⟨y, hy⟩ : ∃ x, x = Sha.part bs at_ t k := ⟨_, rfl⟩
          have c0 := (hI.bel.cell (p := ⟨b, off + (at_ + 4 * t + k), none⟩) hbl).trans (HB.out (at_ + 4 * t + k) (by omega))
          rw [← h0] at c0
          rw [← hy] at hI
          have HW := Lib.hid (show Sha.part bs at_ t (k + 1) = (y <<< 8) ||| x0.toUInt32 by rw [hy, h0]; rfl)
          clear h0 hy
          have c4 := hI.get (by omega)
          have c5 := hI.ww.frozen t
          go_wp2
          refine wp_region_tail 17 (by kernel_rfl) (by kernel_rfl) ?_
          simp only [List.take_succ_cons, List.take_zero, List.drop_succ_cons, List.drop_zero]
          repeat (go_big_quiet_step (fail))
          refine wpQuiet_nil ?_
          go_wp2
          go_roundw
          case rel => exact ⟨k + 1, by omega, by go_num, by rw [HW.out]; exact hI.store _⟩
          case measure => simp [intOf]; omega
        · obtain rfl : k = 4 := by omega
          go_wp2
          go_roundw
          case rel => exact ⟨t + 1, by omega, by go_num, hI.whole (by rw [Sha.part_four]; exact (Sha.wd_lo _ hlt).symm)⟩
          case measure => simp [intOf]; omega
    · have ht1 : 16 ≤ t := by omega
      by_cases hlt : t < 64
      · go_wp2
        obtain ⟨y2, h2⟩ : ∃ y : UInt32, y = Sha.wd (Sha.word bs at_) (t - 2) := ⟨_, rfl⟩
        obtain ⟨y7, h7⟩ : ∃ y : UInt32, y = Sha.wd (Sha.word bs at_) (t - 7) := ⟨_, rfl⟩
        obtain ⟨y15, h15⟩ : ∃ y : UInt32, y = Sha.wd (Sha.word bs at_) (t - 15) := ⟨_, rfl⟩
        obtain ⟨y16, h16⟩ : ∃ y : UInt32, y = Sha.wd (Sha.word bs at_) (t - 16) := ⟨_, rfl⟩
        have HW := Lib.hid (show Sha.wd (Sha.word bs at_) t = Sha.s1 y2 + y7 + Sha.s0 y15 + y16 by rw [h2, h7, h15, h16]; exact Sha.wd_hi _ ht1)
        have c15 := hI.get (i := t - 15) (by omega) (by omega)
        rw [← h15] at c15
        have H2 := Lib.hid h2; have H7 := Lib.hid h7; have H15 := Lib.hid h15; have H16 := Lib.hid h16
        clear h2 h7 h15 h16
        go_quiet ((go_at_call 115; exact Calls.quiet_of (right_any _ _ (by omega) (by omega) _)))
        go_wp2
        have hI1 := hI.drewN nq
        clear hI c15
        generalize wr.drewN nq = w1 at hI1 ⊢
        have c2 := hI1.get (i := t - 2) (by omega) (by omega)
        rw [← H2.out] at c2
        go_quiet ((go_at_call 115; exact Calls.quiet_of (right_any _ _ (by omega) (by omega) _)))
        go_wp2
        have hI2 := hI1.drewN nq
        clear hI1 c2
        generalize w1.drewN nq = w2 at hI2 ⊢
        have c7 := hI2.get (i := t - 7) (by omega) (by omega)
        have c16 := hI2.get (i := t - 16) (by omega) (by omega)
        rw [← H7.out] at c7
        rw [← H16.out] at c16
        have c0 := hI2.get' hlt
        have cf := hI2.ww.frozen t
        refine wp_region_tail 15 (by kernel_rfl) (by kernel_rfl) ?_
        simp only [List.take_succ_cons, List.take_zero, List.drop_succ_cons, List.drop_zero]
        repeat (go_big_quiet_step (fail))
        refine wpQuiet_nil ?_
        go_wp2
        go_roundw
        case rel => exact ⟨t + 1, by omega, by go_num, hI2.store _ (HW.out)⟩
        case measure => simp [intOf]; omega
      · obtain rfl : t = 64 := by omega
        clear ht ht1 hlt
        have hX := hI.ww.lt
        have hz8 := zero8_new 156 wr
        go_wp2_with (first
          | (refine wpList_load_blk (o := ⟨some 95, _, _, _, _, _⟩) hI.hh (by rfl) _ _ (by rfl) (by rfl) _ Try.underlying156 (by rfl) size8r (st8_size _) ?_)
          | (show wpList _ _ _ ((⟨none, _, _, _, _, _⟩ : Oper) :: _) _ _; (refine wpList_store_blk (o := ⟨none, _, _, _, _, _⟩) hz8 (by rfl) _ _ _ (by rfl) (by rfl) (st8 hs) (by rfl) size8r zero8_size (st8_size _) (st8_one _) ?_; intro w3 hx3 hu3; have hI3 := (hI.alloc _).upd hu3 (by omega); clear hI hu3 hz8)))
        generalize wr.heap.size = X at hX hx3 ⊢
        go_loopw [15] (fun i wr => ∃ t : Nat, t ≤ 64 ∧ i = .int .i64 t ∧ BInv 156 w wr hs (Sha.word bs at_) 64 ∧ Blk wr X 156 (st8 (Sha.rounds (Sha.word bs at_) hs t))) (fun i _ => 64 - (intOf i).toNat)
        case atStart => exact ⟨0, by omega, rfl, hI3, hx3⟩
        case round =>
          clear hI3 hx3
          obtain ⟨t, ht, rfl, hI, hx⟩ := hrel
          by_cases hlt : t < 64
          · obtain ⟨s, hs'⟩ : ∃ s, s = Sha.rounds (Sha.word bs at_) hs t := ⟨_, rfl⟩
            rw [← hs'] at hx
            obtain ⟨k, hk'⟩ : ∃ k, k = Sha.kt t := ⟨_, rfl⟩
            obtain ⟨y, hy'⟩ : ∃ k, k = Sha.wd (Sha.word bs at_) t := ⟨_, rfl⟩
            have HS := Lib.hid (show Sha.rounds (Sha.word bs at_) hs (t + 1) = Sha.round k y s by rw [hs', hk', hy']; rfl)
            have HK := Lib.hid hk'
            have HY := Lib.hid hy'
            clear hs' hk' hy'
            go_wp2
            have r0 : wr.cell? ⟨X, 0, none⟩ = some (.int .u32 (iu32 s.a)) := hx.cell 0
            have r1 : wr.cell? ⟨X, 1, none⟩ = some (.int .u32 (iu32 s.b)) := hx.cell 1
            have r2 : wr.cell? ⟨X, 2, none⟩ = some (.int .u32 (iu32 s.c)) := hx.cell 2
            have r3 : wr.cell? ⟨X, 3, none⟩ = some (.int .u32 (iu32 s.d)) := hx.cell 3
            have r4 : wr.cell? ⟨X, 4, none⟩ = some (.int .u32 (iu32 s.e)) := hx.cell 4
            have r5 : wr.cell? ⟨X, 5, none⟩ = some (.int .u32 (iu32 s.f)) := hx.cell 5
            have r6 : wr.cell? ⟨X, 6, none⟩ = some (.int .u32 (iu32 s.g)) := hx.cell 6
            have r7 : wr.cell? ⟨X, 7, none⟩ = some (.int .u32 (iu32 s.h)) := hx.cell 7
            have rw := hI.get (i := t) hlt hlt
            have rk : wr.cell? ⟨w.heap.size + 1, t, none⟩ = some (.int .u32 (iu32 (Sha.kt t))) := by rw [hI.kk.cell t]; exact arr_at _ hlt
            rw [← HY.out] at rw
            rw [← HK.out] at rk
            go_quiet ((go_at_call 115; exact Calls.quiet_of (right_any _ _ (by omega) (by omega) _)))
            clear rw rk
            go_wp2
            replace hI := hI.drewN nq
            replace hx := hx.drewN nq
            clear r0 r1 r2 r3 r4 r5 r6 r7
            generalize wr.drewN nq = w1 at hI hx ⊢
            have r0 : w1.cell? ⟨X, 0, none⟩ = some (.int .u32 (iu32 s.a)) := hx.cell 0
            have r1 : w1.cell? ⟨X, 1, none⟩ = some (.int .u32 (iu32 s.b)) := hx.cell 1
            have r2 : w1.cell? ⟨X, 2, none⟩ = some (.int .u32 (iu32 s.c)) := hx.cell 2
            have r3 : w1.cell? ⟨X, 3, none⟩ = some (.int .u32 (iu32 s.d)) := hx.cell 3
            have r4 : w1.cell? ⟨X, 4, none⟩ = some (.int .u32 (iu32 s.e)) := hx.cell 4
            have r5 : w1.cell? ⟨X, 5, none⟩ = some (.int .u32 (iu32 s.f)) := hx.cell 5
            have r6 : w1.cell? ⟨X, 6, none⟩ = some (.int .u32 (iu32 s.g)) := hx.cell 6
            have r7 : w1.cell? ⟨X, 7, none⟩ = some (.int .u32 (iu32 s.h)) := hx.cell 7
            go_quiet ((go_at_call 115; exact Calls.quiet_of (right_any _ _ (by omega) (by omega) _)))
            replace hI := hI.drewN nq
            replace hx := hx.drewN nq
            clear r0 r1 r2 r3 r4 r5 r6 r7
            generalize w1.drewN nq = w3 at hI hx ⊢
            have r0 : w3.cell? ⟨X, 0, none⟩ = some (.int .u32 (iu32 s.a)) := hx.cell 0
            have r1 : w3.cell? ⟨X, 1, none⟩ = some (.int .u32 (iu32 s.b)) := hx.cell 1
            have r2 : w3.cell? ⟨X, 2, none⟩ = some (.int .u32 (iu32 s.c)) := hx.cell 2
            have r3 : w3.cell? ⟨X, 3, none⟩ = some (.int .u32 (iu32 s.d)) := hx.cell 3
            have r4 : w3.cell? ⟨X, 4, none⟩ = some (.int .u32 (iu32 s.e)) := hx.cell 4
            have r5 : w3.cell? ⟨X, 5, none⟩ = some (.int .u32 (iu32 s.f)) := hx.cell 5
            have r6 : w3.cell? ⟨X, 6, none⟩ = some (.int .u32 (iu32 s.g)) := hx.cell 6
            have r7 : w3.cell? ⟨X, 7, none⟩ = some (.int .u32 (iu32 s.h)) := hx.cell 7
            go_wp2_with (show wpList _ _ _ ((⟨none, _, _, _, _, _⟩ : Oper) :: _) _ _; ((refine wpList_store_blk (o := ⟨none, _, _, _, _, _⟩) hx (by rfl) _ _ _ (by rfl) (by rfl) (st8 (Sha.round k y s)) (by first | rfl | refine Eq.trans (b := Value.agg #[.int .u32 ((iu32 _ + iu32 _) % 4294967296), _, _, _, .int .u32 ((iu32 _ + iu32 _) % 4294967296), _, _, _]) rfl ?_; simp only [u32_add_w]; rfl) size8r (st8_size _) (st8_size _) (st8_one _) ?_; intro w4 hx4 hu4; have hI4 := hI.upd hu4 (by omega); clear hI hx hu4 r0 r1 r2 r3 r4 r5 r6 r7)))
            go_roundw
            case rel => exact ⟨t + 1, by omega, by go_num, hI4, by rw [HS.out]; exact hx4⟩
            case measure => simp [intOf]; omega
          · obtain rfl : t = 64 := by omega
            obtain ⟨xs, hxs⟩ : ∃ s, s = Sha.rounds (Sha.word bs at_) hs 64 := ⟨_, rfl⟩
            rw [← hxs] at hx
            have HX := Lib.hid (show Sha.blk hs bs at_ = Sha.add hs xs by rw [hxs]; rfl)
            clear hxs ht hlt
            have hh0 := hI.hh.sub (sum8_zero hs xs)
            go_wp2
            go_loopw [18] (fun i wr => ∃ t : Nat, t ≤ 8 ∧ i = .int .i64 t ∧ Blk wr w.heap.size 156 (sum8 hs xs t) ∧ Blk wr (w.heap.size + 1 + 1) 156 zero8 ∧ Blk wr X 156 (st8 xs) ∧ Below w.heap.size w wr) (fun i _ => 8 - (intOf i).toNat)
            case atStart => exact ⟨0, by omega, rfl, hh0, hI.zz, hx, hI.bel⟩
            case round =>
              clear hI hx hh0
              obtain ⟨t, ht, rfl, hh, hz, hx, hbel⟩ := hrel
              by_cases hlt : t < 8
              · have c0 := (hh.cell t).trans (sum8_get hs xs t hlt)
                have c1 := (hx.cell t).trans (st8_get xs t hlt)
                have cf := hh.frozen t
                go_wp2
                refine wp_region_tail 9 (by kernel_rfl) (by kernel_rfl) ?_
                simp only [List.take_succ_cons, List.take_zero, List.drop_succ_cons, List.drop_zero]
                repeat (go_big_quiet_step (fail))
                refine wpQuiet_nil ?_
                go_wp2
                go_roundw
                case rel =>
                  refine ⟨t + 1, by omega, by go_num, ?_, hz.off (by omega) _, hx.off (by omega) _, (hbel.set_ (by omega) _).drew⟩
                  have := hh.set_ t (.int .u32 (iu32 (Sha.get hs t + Sha.get xs t)))
                  rw [sum8_set] at this
                  first | exact this | (rw [← u32_add_w] at this; exact this)
                case measure => simp [intOf]; omega
              · obtain rfl : t = 8 := by omega
                rw [sum8_all] at hh
                go_wp2_with (first
                  | (show wpList _ _ _ ((⟨some 197, _, _, _, _, _⟩ : Oper) :: _) _ _; (refine wpList_load_blk (o := ⟨some 197, _, _, _, _, _⟩) hh (by rfl) _ _ (by rfl) (by rfl) _ Try.underlying156 (by rfl) size8r (st8_size _) ?_))
                  | (show wpList _ _ _ ((⟨none, _, _, _, _, _⟩ : Oper) :: _) _ _; (refine wpList_store_blk (o := ⟨none, _, _, _, _, _⟩) hz (by rfl) _ _ _ (by rfl) (by rfl) (st8 (Sha.add hs xs)) (by rfl) size8r zero8_size (st8_size _) (st8_one _) ?_; intro w5 hz5 hu5; have hbel5 := hbel.upd hu5 (by omega); clear hbel hh hz hx hu5)))
                refine bodyPost_ret (results_cell_row (by rfl) _ _ _ _ _ _ _ (by rfl) hz5 Try.underlying156 (by rfl) size8r) rfl ⟨?_, hbel5⟩
                rw [HX.out]
end Go.Proofs.Ytmhfehhpfkjloaa

/- The document's seal of bytes answers what the plain function says. Condition: the bytes can be read and their room is at most 2^47 - 4096. -/
namespace Go.Proofs.Ytmhfehhpfkjloaa
open Go.RowKit
theorem u64_div_byte (n k : Nat) : (n : Int) / 2 ^ (56 - 8 * k) % 256 = iu8 (UInt8.ofNat (n / 2 ^ (56 - 8 * k) % 256)) := by
  rw [iu8_ofNat_mod]; simp
/-- What the eight bytes are so far. -/
def EightRel (n : Nat) (base : Nat) (w : World) (v i : Value) (wr : World) : Prop :=
  ∃ (k : Nat) (sp : List UInt8), k ≤ 8 ∧ i = .int .i64 k ∧ OwnB 5 wr base v ((Sha.eight n).take k) sp ∧ Below base w wr
set_option maxHeartbeats 400000 in
theorem eight_any (n : Nat) (hn : n < 18446744073709551616) (w : World) :
    Calls Try.prog 107 #[.int .u64 n] w fun e w' => ∃ v sp, e = .returned v ∧ OwnB 5 w' w.heap.size v (Sha.eight n) sp ∧ Below w.heap.size w w' := by
  have HN := Lib.hid hn
  clear hn
  go_enter Try.func107, Try.ntmps107
  go_wp2
  go_loopw [3, 4] (fun v i wr => EightRel n w.heap.size w v i wr) (fun _ i _ => 8 - (intOf i).toNat)
  case atStart => exact ⟨0, [], by omega, rfl, OwnsC.nil _ _ _ _, Below.refl _ _⟩
  case round =>
    obtain ⟨k, sp, hk, rfl, ho, hbel⟩ := hrel
    obtain ⟨M, hM⟩ : ∃ M, M = (Sha.eight n).take k := ⟨_, rfl⟩
    have hMl : M.length ≤ 8 := by rw [hM, List.length_take, Sha.eight_length]; omega
    by_cases hk8 : k < 8
    · obtain ⟨x, hx⟩ : ∃ x, x = UInt8.ofNat (n / 2 ^ (56 - 8 * k) % 256) := ⟨_, rfl⟩
      have eb : ((n : Int) / 2 ^ (56 - 8 * k) % 256) = iu8 x := by rw [hx]; exact u64_div_byte n k
      have HX := Lib.hid hx
      rw [← hM] at ho
      have HM := Lib.hid hM
      obtain ⟨A3, c3, rfl, _, _, _, _⟩ := OwnsC.reads ho
      have hsz := hbel.size
      have hlit : Bytes (wr.alloc (.cells #[.int .u8 (iu8 x)] 5)) (some ⟨wr.heap.size, 0, none⟩) [x] := bytes_lit wr _ [x]
      replace ho := OwnB.alloc ho (.cells #[.int .u8 (iu8 x)] 5)
      clear hx hM
      go_wp2_with (show wpList _ _ _ ((⟨some 17, _, _, _, _, _⟩ : Oper) :: _) _ _; refine wpList_append_bytes (o := ⟨some 17, _, _, _, _, _⟩) (by rfl) _ _ _ (by rfl) w.heap.size _ Try.underlying43 u8info (.slice A3 M.length c3) M sp (by rfl) ho (some ⟨wr.heap.size, 0, none⟩) 1 [x] (by rfl) hlit (by simp; omega) (by simp; omega) ?_; intro v3 w9 sp3 ho3 hg3 _ _; have hb3 := (hbel.alloc hsz (.cells #[.int .u8 (iu8 x)] 5)).grown hg3 (by simp; omega) (fun k hk => (OwnsC.lt ho k hk).1); clear hlit ho hg3 hbel)
      go_roundw
      case rel => exact ⟨k + 1, sp3, by omega, by go_num, by rw [HM.out, HX.out, ← Sha.eight_take _ _ hk8] at ho3; exact ho3, hb3⟩
      case measure => simp [intOf]; omega
    · obtain rfl : k = 8 := by omega
      rw [List.take_of_length_le (by rw [Sha.eight_length]; omega)] at ho
      clear hM hMl
      go_wp2
      go_ret
      exact ⟨_, sp, rfl, ho, hbel⟩
theorem size8m : (Try.prog.info? 156).map (·.size) = some 8 := by kernel_rfl
set_option maxHeartbeats 400000 in
set_option maxRecDepth 100000 in
theorem table_any (w : World) : Calls Try.prog 109 #[] w fun e w' => e = .returned (.agg karr) ∧ Below w.heap.size w w' := by
  have a64 := alloc64
  have hz := Blk.new w 158 zero64
  go_enter Try.func109, Try.ntmps109
  go_wp2_with (first | (show wpList _ _ _ ((⟨some 1, .build _ _, _, _, _, _⟩ : Oper) :: _) _ _; (refine wpList_run (o := ⟨some 1, .build _ _, _, _, _, _⟩) (.agg karr) (by rfl) (by kernel_rfl) ?_)) | (show wpList _ _ _ ((⟨none, _, _, _, _, _⟩ : Oper) :: _) _ _; (refine wpList_store_blk (o := ⟨none, _, _, _, _, _⟩) hz (by rfl) _ _ _ (by rfl) (by rfl) karr (by kernel_rfl) size64 zero64_size karr_size karr_one ?_; intro w1 h1 hu1)))
  refine bodyPost_ret (results_cell_row (by rfl) _ _ _ _ _ _ _ (by rfl) h1 Try.underlying158 (by rfl) size64) rfl ⟨rfl, ((Below.refl _ _).alloc (Nat.le_refl _) _).upd hu1 (Nat.le_refl _)⟩
set_option maxHeartbeats 400000 in
theorem begin_any (w : World) : Calls Try.prog 108 #[] w fun e w' => e = .returned (.agg (st8 Sha.init)) ∧ Below w.heap.size w w' := by
  have hz := zero8_new 156 w
  go_enter Try.func108, Try.ntmps108
  go_wp2_with (first | (show wpList _ _ _ ((⟨some 1, .build _ _, _, _, _, _⟩ : Oper) :: _) _ _; (refine wpList_run (o := ⟨some 1, .build _ _, _, _, _, _⟩) (.agg (st8 Sha.init)) (by rfl) (by kernel_rfl) ?_)) | (show wpList _ _ _ ((⟨none, _, _, _, _, _⟩ : Oper) :: _) _ _; (refine wpList_store_blk (o := ⟨none, _, _, _, _, _⟩) hz (by rfl) _ _ _ (by rfl) (by rfl) (st8 Sha.init) (by rfl) size8m zero8_size (st8_size _) (st8_one _) ?_; intro w1 h1 hu1)))
  refine bodyPost_ret (results_cell_row (by rfl) _ _ _ _ _ _ _ (by rfl) h1 Try.underlying156 (by rfl) size8m) rfl ⟨rfl, ((Below.refl _ _).alloc (Nat.le_refl _) _).upd hu1 (Nat.le_refl _)⟩

theorem OwnB.grown_ {e : TypeId} {w w' : World} {base : Nat} {v : Value} {l sp : List UInt8} (h : OwnB e w base v l sp) (hb : Below w.heap.size w w') : OwnB e w' base v l sp := OwnsC.ownBelow h hb
/-- Ahead of each nought that is put behind. -/
def ZeroRel (w : World) (l : List UInt8) (v : Value) (wr : World) : Prop :=
  ∃ (i : Nat) (sp : List UInt8), i ≤ Sha.zeros l.length ∧ OwnB 5 wr (w.heap.size + 1) v (l ++ 128 :: List.replicate i 0) sp ∧ Blk wr w.heap.size 105 zero16 ∧ Below w.heap.size w wr
/-- Ahead of each block of the padded bytes. -/
def LoopRel (w : World) (H K : Nat) (l : List UInt8) (A : Option Addr) (v : Value) (wr : World) : Prop :=
  ∃ (j : Nat), 64 * j ≤ (Sha.pad l).length ∧ v = .int .i64 (64 * (j : Int)) ∧ Bytes wr A (Sha.pad l) ∧ SInv 156 w wr H K (Sha.blks (Sha.pad l) Sha.init j)
/-- The 16 bytes, of which the first i have been laid. -/
def rarr (x : Sha.St) (i : Nat) : Array Value := arr 16 fun k => if k < i then u8v (Sha.outAt x k) else .int .u8 0
theorem rarr_zero (x : Sha.St) : zero16 = rarr x 0 := arr_congr fun i _ => by simp
theorem rarr_all (x : Sha.St) : rarr x 16 = ((Sha.out x).map u8v).toArray := by
  unfold Sha.out
  rw [List.map_map, arr_list]
  exact arr_congr fun i h => by simp [h]
theorem rarr_set (x : Sha.St) (i : Nat) : (rarr x i).setIfInBounds i (.int .u8 (iu8 (Sha.outAt x i))) = rarr x (i + 1) := by
  unfold rarr
  rw [arr_set]
  refine arr_congr fun k _ => ?_
  by_cases h : k = i
  · subst h; simp [u8v]
  · rw [if_neg h]
    by_cases hk : k < i
    · rw [if_pos hk, if_pos (by omega)]
    · rw [if_neg hk, if_neg (by omega)]
/-- Ahead of each byte of the seal. -/
def OutRel (w : World) (H K D : Nat) (x : Sha.St) (v : Value) (wr : World) : Prop :=
  ∃ i : Nat, i ≤ 16 ∧ v = .int .i64 (i : Int) ∧ SInv 156 w wr H K x ∧ Blk wr D 105 (rarr x i)
set_option maxHeartbeats 1000000 in
set_option maxRecDepth 100000 in
theorem rsum_any (A : Option Addr) (c : Nat) (l : List UInt8) (_ : l.length ≤ c) (hc2 : l.length ≤ 140737488351232 ∧ c ≤ 9223372036854775807) (w : World) (hb : Bytes w A l) :
    Calls Try.prog 95 #[.slice A l.length c] w fun e w' => e = .returned (.agg ((Sha.sum l).map u8v).toArray) ∧ Below w.heap.size w w' := by
  have a16 := alloc16
  have HZ := Lib.hid (Sha.zeros_lt l.length)
  have hz16 : Blk ((w.alloc (.cells zero16 105)).alloc (.cells #[] 5)) w.heap.size 105 zero16 := (Blk.new _ _ _).alloc _
  have hbz : Below w.heap.size w ((w.alloc (.cells zero16 105)).alloc (.cells #[] 5)) := ((Below.refl _ _).alloc (Nat.le_refl _) _).alloc (by simp) _
  have hb1 : Bytes ((w.alloc (.cells zero16 105)).alloc (.cells #[] 5)) A l := hb.below hbz
  have ho0 : OwnB 5 ((w.alloc (.cells zero16 105)).alloc (.cells #[] 5)) (w.heap.size + 1) (.slice (some ⟨w.heap.size + 1, 0, none⟩) 0 0) [] [] := by
    have := OwnsC.lit (e := 5) (size := 1) (base := w.heap.size + 1) (w.alloc (.cells zero16 105)) #[] 0 (by simp) (by simp) (by simp)
    unfold OwnB; simpa using this
  go_enter Try.func95, Try.ntmps95
  go_wp2_with (first
    | (show wpList _ _ _ ((⟨some 11, _, _, _, _, _⟩ : Oper) :: _) _ _; (refine wpList_append_bytes (o := ⟨some 11, _, _, _, _, _⟩) (by rfl) _ _ _ (by rfl) (w.heap.size + 1) _ Try.underlying43 u8info (.slice (some ⟨w.heap.size + 1, 0, none⟩) 0 0) [] [] (by rfl) ho0 A c l (by rfl) hb1 (by simp; omega) (by simp) ?_; intro v1 w1 sp1 ho1 hg1 _ _; replace hbz := hbz.grown hg1 (by simp; omega) (fun k hk => by have := (OwnsC.lt ho0 k hk).1; omega); replace hz16 := (hg1.block _ hz16.lt (fun e => by have := (OwnsC.lt ho0 _ e.symm).1; omega)).trans hz16; clear hb1 ho0 hg1; replace ho1 := OwnB.alloc ho1 (.cells #[.int .u8 128] 5); have hsz1 := hbz.size; have hlit : Bytes (w1.alloc (.cells #[.int .u8 128] 5)) (some ⟨w1.heap.size, 0, none⟩) [128] := bytes_lit w1 _ [128]))
    | (show wpList _ _ _ ((⟨some 14, _, _, _, _, _⟩ : Oper) :: _) _ _; (refine wpList_append_bytes (o := ⟨some 14, _, _, _, _, _⟩) (by rfl) _ _ _ (by rfl) (w.heap.size + 1) _ Try.underlying43 u8info v1 ([] ++ l) sp1 (by rfl) ho1 (some ⟨w1.heap.size, 0, none⟩) 1 [128] (by rfl) hlit (by simp; omega) (by have := Blk.lt hz16; simp; omega) ?_; intro v2 w2 sp2 ho2 hg2 _ _; have hbz2 := (hbz.alloc hsz1 (.cells #[.int .u8 128] 5)).grown hg2 (by simp; omega) (fun k hk => by have := (OwnsC.lt ho1 k hk).1; omega); have hz2 := (hg2.block _ (Blk.alloc hz16 _).lt (fun e => by have := (OwnsC.lt ho1 _ e.symm).1; omega)).trans (Blk.alloc hz16 (.cells #[.int .u8 128] 5)); clear hbz hz16 hlit ho1 hg2 hsz1)))
  have ho3 : OwnB 5 w2 (w.heap.size + 1) v2 (l ++ 128 :: List.replicate 0 0) sp2 := by simpa using ho2
  clear ho2
  go_loopw [3] (fun v wr => ZeroRel w l v wr) (fun v _ => l.length + 100 - lenOf v)
  case atStart => exact ⟨0, _, by omega, ho3, hz2, hbz2⟩
  case round =>
    clear ho3 hz2 hbz2
    obtain ⟨i, sp, hi, ho, hrr, hbel⟩ := hrel
    obtain ⟨A2, c2, hv, _, _, _, _⟩ := OwnsC.reads ho
    subst hv
    obtain ⟨L, hL⟩ : ∃ L, L = l ++ 128 :: List.replicate i 0 := ⟨_, rfl⟩
    rw [← hL] at ho ⊢
    have hLl : L.length = l.length + 1 + i := by rw [hL]; simp; omega
    have HL := Lib.hid hL
    have HLl := Lib.hid hLl
    have hsz := hbel.size
    have hzl := HZ.out
    by_cases hlt : i < Sha.zeros l.length
    · have ht1 : (((L.length : Nat) : Int) % 64 != 56) = true := by rw [bne_iff_ne]; have := Sha.zeros_not' hlt; rw [← hLl] at this; omega
      have hLle : L.length ≤ 140737488351400 := by omega
      have hLlt : L.length < l.length + 100 := by omega
      have hlit : Bytes (wr.alloc (.cells #[.int .u8 0] 5)) (some ⟨wr.heap.size, 0, none⟩) [0] := bytes_lit wr _ [0]
      replace ho := OwnB.alloc ho (.cells #[.int .u8 0] 5)
      have hrlt := hrr.lt
      clear hL hLl hzl
      go_wp2_with (show wpList _ _ _ ((⟨some 21, _, _, _, _, _⟩ : Oper) :: _) _ _; refine wpList_append_bytes (o := ⟨some 21, _, _, _, _, _⟩) (by rfl) _ _ _ (by rfl) (w.heap.size + 1) _ Try.underlying43 u8info (.slice A2 L.length c2) L sp (by rfl) ho (some ⟨wr.heap.size, 0, none⟩) 1 [0] (by rfl) hlit (by simp; omega) (by simp; omega) ?_; intro v3 w9 sp3 ho3 hg3 _ _; have hb3 := (hbel.alloc hsz (.cells #[.int .u8 0] 5)).grown hg3 (by simp; omega) (fun k hk => by have := (OwnsC.lt ho k hk).1; omega); have hz3 := (hg3.block _ (Blk.alloc hrr _).lt (fun e => by have := (OwnsC.lt ho _ e.symm).1; omega)).trans (Blk.alloc hrr (.cells #[.int .u8 0] 5)); clear hlit ho hg3 hbel hrr)
      obtain ⟨A3, c3, hv3, _⟩ := OwnsC.reads ho3
      subst hv3
      go_roundw
      case rel => exact ⟨i + 1, sp3, by omega, by have e : L ++ [0] = l ++ 128 :: List.replicate (i + 1) 0 := by { rw [HL.out]; simp [List.replicate_succ'] }; rw [← e]; exact ho3, hz3, hb3⟩
      case measure => simp [lenOf]; omega
    · have e : i = Sha.zeros l.length := by omega
      subst e
      have ht1 : (((L.length : Nat) : Int) % 64 != 56) = false := by
        have := Sha.zeros_is' l.length
        rw [← hLl] at this
        have h2 : ((L.length : Nat) : Int) % 64 = 56 := by omega
        rw [h2]; rfl
      have hLle : L.length ≤ 140737488351400 := by omega
      clear hL hLl hzl
      go_wp2_with fail
      refine (eight_any (8 * l.length) (by omega) _).mono ?_
      rintro e w3 ⟨v8, sp8, rfl, ho8, hb8⟩
      obtain ⟨m, hm⟩ : ∃ m, m = Sha.eight (8 * l.length) := ⟨_, rfl⟩
      rw [← hm] at ho8
      have hml : m.length ≤ 8 := by rw [hm, Sha.eight_length]; omega
      obtain ⟨A8, c8, hv8, _, _, hr8, _⟩ := OwnsC.reads ho8
      subst hv8
      have hr8b : Bytes w3 A8 m := hr8
      replace ho := OwnB.grown_ ho hb8
      replace hrr := hrr.below hb8 hrr.lt
      replace hbel := hbel.trans (hb8.mono hsz)
      have hP : L ++ m = Sha.pad l := by rw [HL.out, hm, Sha.pad, Sha.tail, Nat.mul_comm]; simp
      have hsz3 := hbel.size
      have hrlt := hrr.lt
      have HP := Lib.hid hP
      clear hm hr8 ho8 hP hb8 hsz
      go_wp2_with (first
        | (show wpList _ _ _ ((⟨some 28, _, _, _, _, _⟩ : Oper) :: _) _ _; refine wpList_append_bytes (o := ⟨some 28, _, _, _, _, _⟩) (by rfl) _ _ _ (by rfl) (w.heap.size + 1) _ Try.underlying43 u8info (.slice A2 L.length c2) L sp (by rfl) ho A8 c8 m (by rfl) hr8b (by omega) (by omega) ?_; intro v4 w4 sp4 ho4 hg4 _ _; have hb4 := hbel.grown hg4 hsz3 (fun k hk => by have := (OwnsC.lt ho k hk).1; omega); have hz4 : Blk w4 w.heap.size 105 zero16 := (hg4.block _ hrlt (fun e => by have := (OwnsC.lt ho _ e.symm).1; omega)).trans hrr; clear ho hg4 hbel hrr hr8b hsz3 hrlt)
        | fail)
      refine (begin_any _).mono ?_
      rintro e w5 ⟨rfl, hb5⟩
      have ho5 := OwnB.grown_ ho4 hb5
      have hz5 := hz4.below hb5 hz4.lt
      have hbel5 := hb4.trans (hb5.mono hb4.size)
      have hH8 := zero8_new 156 w5
      have hz5' := hz5.alloc (.cells #[.int .u32 0, .int .u32 0, .int .u32 0, .int .u32 0, .int .u32 0, .int .u32 0, .int .u32 0, .int .u32 0] 156)
      have hlt5 := hz5.lt
      rw [HP.out] at ho5
      clear ho4 hz4 hb4 hb5 hz5
      have hge : ∀ k, v4.ownBlock = some k → k < w5.heap.size := fun k hk => (OwnsC.lt ho5 k hk).2
      have HG := Lib.hid hge
      have HO5 := Lib.hid ho5
      clear hge ho5
      go_wp2_with (first
        | (show wpList _ _ _ ((⟨none, .store _ (.tmp 4) (.tmp 29), _, _, _, _⟩ : Oper) :: _) _ _; (refine wpList_store_blk (o := ⟨none, _, _, _, _, _⟩) hH8 (by rfl) _ _ _ (by rfl) (by rfl) (st8 Sha.init) (by rfl) size8m zero8_size (st8_size _) (st8_one _) ?_; intro w6 h6 hu6; have hz6 := hz5'.upd hu6 (by omega); have hbel6 := (hbel5.alloc (by omega) (.cells #[.int .u32 0, .int .u32 0, .int .u32 0, .int .u32 0, .int .u32 0, .int .u32 0, .int .u32 0, .int .u32 0] 156)).upd hu6 (by omega); have ho6 := (OwnB.alloc HO5.out (.cells #[.int .u32 0, .int .u32 0, .int .u32 0, .int .u32 0, .int .u32 0, .int .u32 0, .int .u32 0, .int .u32 0] 156)).upd hu6 (fun hk => by have := HG.out _ hk; omega); have hs6 := hu6.size; clear hu6 hH8 hz5' hbel5))
        | fail)
      refine (table_any _).mono ?_
      rintro e w7 ⟨rfl, hb7⟩
      have hH7 := (h6.below hb7 h6.lt).alloc (.cells zero64 158)
      have hz7 := (hz6.below hb7 hz6.lt).alloc (.cells zero64 158)
      have hbel7 := (hbel6.trans (hb7.mono hbel6.size)).alloc (by have := hbel6.size; have := hb7.size; omega) (.cells zero64 158)
      have ho7 := OwnB.alloc (OwnB.grown_ ho6 hb7) (.cells zero64 158)
      have HO7 := Lib.hid ho7
      have hK7 := Blk.new w7 158 zero64
      have hlt7 := (h6.below hb7 h6.lt).lt
      clear h6 hz6 hbel6 ho6 hb7 ho7 hs6
      generalize w5.heap.size = H at hlt5 hH7 hlt7 HG ⊢
      go_wp2_with (first
        | (show wpList _ _ _ ((⟨none, .store _ (.tmp 5) (.tmp 30), _, _, _, _⟩ : Oper) :: _) _ _; (refine wpList_store_blk (o := ⟨none, _, _, _, _, _⟩) hK7 (by rfl) _ _ _ (by rfl) (by rfl) karr (by rfl) size64 zero64_size karr_size karr_one ?_; intro w8 h8 hu8; have hI : SInv 156 w w8 H w7.heap.size Sha.init := ⟨hH7.upd hu8 (by omega), h8, hz7.upd hu8 (by omega), hlt5, hlt7, hbel7.upd hu8 (by omega)⟩; have ho8 := HO7.out.upd hu8 (fun hk => by have := HG.out _ hk; omega); clear hu8 hK7 hH7 hz7 hbel7))
        | fail)
      generalize w7.heap.size = K at hI hlt7 ⊢
      obtain ⟨A4, c4, hv4, _, _, hr4, _⟩ := OwnsC.reads ho8
      subst hv4
      have hne : ∀ ad, A4 = some ad → ad.block ≠ H := fun ad hd => by have := HG.out ad.block (by rw [hd]; rfl); omega
      have hr : Bytes w8 A4 (Sha.pad l) := hr4
      have hplen : (Sha.pad l).length ≤ 140737488351400 := by have := HZ.out; rw [Sha.pad_length]; omega
      have hpm := Sha.pad_mod l
      have HPM := Lib.hid hpm
      clear hr4 ho8 hpm
      go_loopw [6] (fun v wr => LoopRel w H K l A4 v wr) (fun v _ => (Sha.pad l).length - (intOf v).toNat)
      case atStart => exact ⟨0, by omega, rfl, hr, hI⟩
      case round =>
        clear hI hr
        obtain ⟨j, hj, rfl, hr, hI⟩ := hrel
        by_cases hlt : 64 * j < (Sha.pad l).length
        · have hpm := HPM.out
          have hge : 64 * j + 64 ≤ (Sha.pad l).length := by omega
          clear hpm
          obtain ⟨b, off, hA, hbl, hcell⟩ := hr.at_ (by omega)
          subst hA
          have HC := Lib.hid hcell
          have HR := Lib.hid hr
          have HP2 := Lib.hid hge
          clear hcell hr hge
          go_wp2_with (first
            | (show wpList _ _ _ ((⟨some 37, _, _, _, _, _⟩ : Oper) :: _) _ _; refine wpList_load_blk (o := ⟨some 37, _, _, _, _, _⟩) hI.hh (by rfl) _ _ (by rfl) (by rfl) _ Try.underlying156 (by rfl) size8m (st8_size _) ?_)
            | (show wpList _ _ _ ((⟨some 38, _, _, _, _, _⟩ : Oper) :: _) _ _; refine wpList_load_blk (o := ⟨some 38, _, _, _, _, _⟩) hI.kk (by rfl) _ _ (by rfl) (by rfl) _ Try.underlying158 (by rfl) size64 karr_size ?_)
            | fail)
          refine (rblock_any (Sha.blks (Sha.pad l) Sha.init j) b off _ c4 (Sha.pad l) (64 * j) rfl HP2.out (by omega) _ hbl HC.out).mono ?_
          rintro e w9 ⟨rfl, hb9⟩
          replace hI := hI.below hb9
          have hr9 := Bytes.below HR.out hb9
          have HR9 := Lib.hid hr9
          clear hr9 hb9
          go_wp2_with (show wpList _ _ _ ((⟨none, .store _ (.tmp 4) (.tmp 41), _, _, _, _⟩ : Oper) :: _) _ _; refine wpList_store_blk (o := ⟨none, _, _, _, _, _⟩) hI.hh (by rfl) _ _ _ (by rfl) (by rfl) (st8 (Sha.blk (Sha.blks (Sha.pad l) Sha.init j) (Sha.pad l) (64 * j))) (by rfl) size8m (st8_size _) (st8_size _) (st8_one _) ?_; intro w6 h6 hu6; have hI6 := hI.stored h6 hu6; have hr6 := HR9.out.upd hu6 hne; have HR6 := Lib.hid hr6; clear hr6 hu6 hI h6)
          go_roundw
          case rel => exact ⟨j + 1, by have := HP2.out; omega, by go_num, HR6.out, hI6⟩
          case measure => have := HP2.out; simp [intOf]; omega
        · have hpm := HPM.out
          have HS := Lib.hid (show j = (Sha.pad l).length / 64 by omega)
          have hjl : 64 * j = (Sha.pad l).length := by omega
          have HJ := Lib.hid hjl
          have ht : decide (64 * (j : Int) < ((Sha.pad l).length : Int)) = false := by simp; omega
          clear hpm hlt hr hjl
          obtain ⟨x, hx⟩ : ∃ x, x = Sha.blks (Sha.pad l) Sha.init j := ⟨_, rfl⟩
          rw [← hx] at hI
          have HX := Lib.hid (show Sha.sum l = Sha.out x by rw [hx, HS.out]; rfl)
          clear hx
          have hD : Blk (wr.alloc (.cells zero16 105)) wr.heap.size 105 (rarr x 0) := (Blk.new _ _ _).sub (rarr_zero x)
          have hKD := hI.kk.lt
          have hI2 := hI.alloc (.cells zero16 105)
          go_wp2
          generalize wr.heap.size = D at hD hKD ⊢
          go_loopw [8] (fun v wr => OutRel w H K D x v wr) (fun v _ => 16 - (intOf v).toNat)
          case atStart => exact ⟨0, by omega, rfl, hI2, hD⟩
          case round =>
            clear hI hI2 hD
            obtain ⟨i, hi, rfl, hI, hD⟩ := hrel
            by_cases hi4 : i < 16
            · obtain ⟨q, hq⟩ : ∃ q, q = i / 4 := ⟨_, rfl⟩
              obtain ⟨r, hr⟩ : ∃ r, r = i % 4 := ⟨_, rfl⟩
              have hq4 : q < 8 := by omega
              have hr4 : r < 4 := by omega
              have eq1 : (i : Int) / 4 = (q : Int) := by omega
              have er1 : (i : Int) % 4 = (r : Int) := by omega
              obtain ⟨y, hy⟩ : ∃ y, y = Sha.get x q := ⟨_, rfl⟩
              have cy := (hI.hh.cell q).trans (st8_get x q (by omega))
              rw [← hy] at cy
              have hb0 : iu32 y / 2 ^ (24 - 8 * r) % 256 = iu8 (Sha.byte y r) := byte_eq y r
              have ho : Sha.outAt x i = Sha.byte y r := by rw [hy, hq, hr]; rfl
              have HO := Lib.hid ho
              have d0 := (hD.cell i).trans (arr_at _ hi4)
              have f0 := hD.frozen i
              clear hy hq hr ho
              go_wp2
              go_roundw
              case rel =>
                have h1 := hD.set_ i (.int .u8 (iu8 (Sha.byte y r)))
                rw [← HO.out, rarr_set x i] at h1
                exact ⟨i + 1, by omega, by go_num, hI.off hKD _, by rw [← HO.out]; exact h1⟩
              case measure => simp [intOf]; omega
            · obtain rfl : i = 16 := by omega
              rw [rarr_all] at hD
              go_wp2_with (first
                | (show wpList _ _ _ ((⟨some 58, _, _, _, _, _⟩ : Oper) :: _) _ _; refine wpList_load_blk (o := ⟨some 58, _, _, _, _, _⟩) hD (by rfl) _ _ (by rfl) (by rfl) _ Try.underlying105 (by rfl) size16 (by simp [Sha.out]) ?_)
                | (show wpList _ _ _ ((⟨none, .store _ (.tmp 2) (.tmp 58), _, _, _, _⟩ : Oper) :: _) _ _; refine wpList_store_blk (o := ⟨none, _, _, _, _, _⟩) hI.rr (by rfl) _ _ _ (by rfl) (by rfl) ((Sha.out x).map u8v).toArray (by rfl) size16 (arr_size _ _) (by simp [Sha.out]) (u8_all _) ?_; intro w6 h6 hu6; have hbel := hI.bel.upd hu6 (Nat.le_refl _); clear hu6 hI hD))
              refine bodyPost_ret (results_cell_row (by rfl) _ _ _ _ _ _ _ (by rfl) h6 Try.underlying105 (by rfl) (size16.trans (by simp [Sha.out]))) rfl ⟨?_, hbel⟩
              rw [HX.out]
end Go.Proofs.Ytmhfehhpfkjloaa

/- What the functions of the layer of seals answer: the seal compared, bytes sealed, bytes opened; the program's and the document's. Conditions: the bytes can be read; they are at most 2^47 - 5000. -/
namespace Go
open Go.RowKit
theorem u8v_cell : Extern.Stop.cell = u8v := funext fun _ => rfl
theorem wpList_eql_bytes {P : Program} {w : World} {Q : Exit → Act → World → Prop} {ops : Array Oper} {rest : List Oper} {o : Oper} {a : Act} (hgd : o.guard = none) (t e r : TypeId) (x y : Operand) (ho : o.op = .binOp .eql t x y r) (n : Nat)
    (ht : P.underlying t = some (.array n e)) (he : P.underlying e = some (.int .u8)) (hsz : (P.info? e).map (·.size) = some 1) (hm : P.eqGuardType P.depth t = false)
    (l l' : List UInt8) (hx : a.eval x = .agg (l.map u8v).toArray) (hy : a.eval y = .agg (l'.map u8v).toArray) (hl : l.length = n) (hl' : l'.length = n)
    (h : wpList P ops Q rest (a.put o.dst (.bool (decide (l = l')))) w) : wpList P ops Q (o :: rest) a w := by
  refine wpList_run (.bool (decide (l = l'))) hgd ?_ h
  obtain ⟨i, hi, hs⟩ := Option.map_eq_some_iff.1 hsz
  have hsz' : ∀ w, (sizeOf e).run P w = .ok 1 w := fun w => by simp [sizeOf, typeInfo, hi, hs]
  have h1 := run_eql_bytes (P := P) w t e n ht he hsz' l l' hl hl'
  rw [u8v_cell] at h1
  have h2 : (l == l') = decide (l = l') := by by_cases h : l = l' <;> simp [h]
  rw [h2] at h1
  unfold execOp
  simp only [ho, hx, hy, Sem.run_bind, run_eqGuard_agg w .eql t x y _ _ hm, h1, Result.andThen_ok, Sem.run_pure]
/-- A load of a whole array out of the middle of a block. -/
theorem wpQuiet_load_mid {P : Program} {ops : Array Oper} {C : World → Prop} {Q : Act → Prop} {rest : List Oper} {o : Oper} {a : Act} {b off : Nat} {cs : List Value} (hb : ∀ w, C w → w.rangeAt b off cs) (hgd : o.guard = none) (ty : TypeId) (x : Operand) (ho : o.op = .load ty x)
    (hx : a.eval x = .pointer (some ⟨b, off, none⟩)) (d : TypeDesc) (hu : P.underlying ty = some d) (hd : d.isRow = true) {n : Nat} (hi : (P.info? ty).map (·.size) = some n) (hn : cs.length = n)
    (h : wpQuiet P ops C Q rest (a.put o.dst (.agg cs.toArray))) : wpQuiet P ops C Q (o :: rest) a := by
  refine wpQuiet_step fun K hK => ?_
  rw [if_pos (by simp [Region.wanted, hgd])]
  refine ⟨_, fun w hw => ?_, hK _ h⟩
  unfold Oper.quietAt execOp
  simp only [ho, hx, Instr.loadAt, Instr.sureAddr, Sem.run_bind, Sem.run_pure, Result.andThen_ok, run_loadVar_mid w b off ty cs d (hb w hw) hu hd (hn ▸ hi)]
  exact ⟨rfl, rfl⟩
theorem run_cut {P : Program} (w : World) (t e : TypeId) (ht : P.underlying t = some (.slice e)) (hsz : (P.info? e).map (·.size) = some 1) (A : Option Addr) (n c : Nat) (k : IntKind) (K : Nat) (hK : K ≤ n) :
    (Instr.sliceAt t (.slice A n c) (some (.int k (K : Int))) none none).run P w = .ok (.slice (if c = K then A else A.map (·.add K)) (n - K) (c - K)) w := by
  obtain ⟨i, hi, hs⟩ := Option.map_eq_some_iff.1 hsz
  have hsz' : (sizeOf e).run P w = .ok 1 w := by simp [sizeOf, typeInfo, hi, hs]
  have hb : (Instr.sliceBound (.int k (K : Int)) n .sliceB).run P w = .ok K w := by
    have := run_sliceBound (P := P) w k (K : Int) n .sliceB (by omega) (by omega)
    simpa using this
  simp [Instr.sliceAt, Instr.slice, run_underlying ht, Instr.sliceBounds, hb, hsz']
/-- s[k:] of bytes. -/
theorem wpList_cut_bytes {P : Program} {w : World} {Q : Exit → Act → World → Prop} {ops : Array Oper} {rest : List Oper} {o : Oper} {a : Act} (hgd : o.guard = none) (t : TypeId) (x lo : Operand) (ho : o.op = .slice t x (some lo) none none) (e : TypeId)
    (ht : P.underlying t = some (.slice e)) (hsz : (P.info? e).map (·.size) = some 1) (A : Option Addr) (n c : Nat) (k : IntKind) (K : Nat) (hx : a.eval x = .slice A n c) (hlo : a.eval lo = .int k (K : Int)) (l : List UInt8) (hn : n = l.length) (hK : K ≤ n) (hc : n ≤ c) (hb : Bytes w A l)
    (h : ∀ A', Bytes w A' (l.drop K) → (∀ ad, A' = some ad → ∃ ad0, A = some ad0 ∧ ad0.block = ad.block) → wpList P ops Q rest (a.put o.dst (.slice A' (l.drop K).length (c - K))) w) : wpList P ops Q (o :: rest) a w := by
  refine wpList_run (.slice (if c = K then A else A.map (·.add K)) (n - K) (c - K)) hgd (by unfold execOp; simp only [ho, hx, hlo, Option.map_some, Option.map_none, run_cut w t e ht hsz A n c k K hK, Sem.run_bind, Result.andThen_ok, Sem.run_pure]) ?_
  have hlen : n - K = (l.drop K).length := by rw [List.length_drop, hn]
  rw [hlen]
  refine h _ (hb.drop (by omega)) fun ad had => ?_
  split at had
  · exact ⟨ad, had, rfl⟩
  · cases A with
    | none => cases had
    | some ad0 => simp only [Option.map_some, Option.some.injEq] at had; exact ⟨ad0, rfl, by rw [← had]; unfold Addr.add; split <;> rfl⟩
/-- A slice as a pointer to an array. -/
theorem wpQuiet_array {P : Program} {ops : Array Oper} {C : World → Prop} {Q : Act → Prop} {rest : List Oper} {o : Oper} {a : Act} (hgd : o.guard = none) (t : TypeId) (x : Operand) (ho : o.op = .sliceToArrayPointer t x)
    (m : Nat) (e : TypeId) (hu : P.underlying t = some (.array m e)) (A : Option Addr) (n c : Nat) (hx : a.eval x = .slice A n c) (hmn : m ≤ n)
    (h : wpQuiet P ops C Q rest (a.put o.dst (.pointer A))) : wpQuiet P ops C Q (o :: rest) a := by
  refine wpQuiet_step fun K hK => ?_
  rw [if_pos (by simp [Region.wanted, hgd])]
  refine ⟨_, fun w hw => ?_, hK _ h⟩
  unfold Oper.quietAt execOp
  have hn : ¬ n < m := by omega
  simp only [ho, hx, Instr.arrayAt, Sem.run_bind, run_underlying hu, hn, if_false, Sem.run_pure, Result.andThen_ok]
  exact ⟨rfl, rfl⟩
theorem OwnB.made {e : TypeId} {w : World} {base g m : Nat} (h : Blk w g e ((List.replicate m 0).map u8v).toArray) (hb : base ≤ g) (hm : m ≤ 140737488400000 ∧ m ≤ maxLen) : OwnB e w base (.slice (some ⟨g, 0, none⟩) 0 m) [] (List.replicate m 0) :=
  .inr ⟨g, m, rfl, hb, by simpa using h, Nat.zero_le _, hm.2, rfl, by simp⟩
theorem OwnB.lit0 {e : TypeId} (w : World) {base : Nat} (hb : base ≤ w.heap.size) : OwnB e (w.alloc (.cells #[] e)) base (.slice (some ⟨w.heap.size, 0, none⟩) 0 0) [] [] := by
  have := OwnsC.lit (e := e) (size := 1) (base := base) w #[] 0 hb (by simp) (by simp)
  unfold OwnB; simpa using this
namespace Proofs.Ytmhfehhpfkjloaa
theorem nosel : Try.prog.eqGuardType Try.prog.depth 105 = false := by kernel_rfl
theorem Sha.sum_length (l : List UInt8) : (Sha.sum l).length = 16 := by simp [Sha.sum, Sha.out]
set_option maxHeartbeats 400000 in
theorem right_seal_any (A : Option Addr) (n c : Nat) (l s : List UInt8) (hn : n = l.length) (hc : l.length ≤ c) (hc2 : l.length ≤ 140737488351232 ∧ c ≤ 9223372036854775807) (hs : s.length = 16) (w : World) (hb : Bytes w A l) :
    Calls Try.prog 61 #[.slice A n c, .agg (s.map u8v).toArray] w fun e w' => e = .returned (.bool (decide (Sha.sum l = s))) ∧ Below w.heap.size w w' := by
  subst hn
  have hg : Blk (w.alloc (.cells (s.map u8v).toArray 105)) w.heap.size 105 (s.map u8v).toArray := Blk.new _ _ _
  have h0 : Below w.heap.size w (w.alloc (.cells (s.map u8v).toArray 105)) := (Below.refl _ _).alloc (Nat.le_refl _) _
  go_enter Try.func61, Try.ntmps61
  go_wp2_with fail
  generalize hw1 : w.alloc (.cells (s.map u8v).toArray 105) = w1 at hg h0 ⊢
  have hsz : w1.heap.size = w.heap.size + 1 := by rw [← hw1]; simp
  clear hw1
  have hs16 := Sha.sum_length l
  have hst : ∀ w', Below w1.heap.size w1 w' → Calls Try.prog 94 #[.slice A l.length c] w' fun e w'' => e = .returned (.agg ((Sha.sum l).map u8v).toArray) ∧ Below w1.heap.size w1 w'' := fun w' hw' =>
    (sum_any A c l hc hc2 w' (Bytes.below (Bytes.below hb h0) hw')).mono fun e w'' h => ⟨h.1, hw'.trans (h.2.mono hw'.size)⟩
  generalize hS : Sha.sum l = S at hst hs16
  refine wp_region_mix (Below w1.heap.size w1) [0] [1, 2] 3 [4] (by kernel_rfl) (by kernel_rfl) (fun c a a' w h q => ⟨h ▸ q.1, q.2⟩) (Below.refl _ _).drew ?_
  dsimp only [List.filterMap, List.getElem?_cons_zero, List.getElem?_cons_succ]
  repeat (go_big_quiet_step (fail))
  refine wpQuiet_nil ?_
  refine wpQuiet_call Try.call94 (by rfl) _ _ (by rfl) _ (by rfl) _ hst ?_
  simp only [Act.put, List.setIfInBounds_toArray, List.set_cons_zero, List.set_cons_succ]
  refine wpQuiet_load_blk (fun w' hw' => hg.below hw' hg.lt) (by rfl) _ _ (by rfl) (by rfl) _ Try.underlying105 (by rfl) size16 (by simp [hs]) ?_
  simp only [Act.put, List.setIfInBounds_toArray, List.set_cons_zero, List.set_cons_succ]
  refine wpQuiet_nil ?_
  intro w5 hw5
  go_wp2_with (show wpList _ _ _ ((⟨some 8, _, _, _, _, _⟩ : Oper) :: _) _ _; refine wpList_eql_bytes (o := ⟨some 8, _, _, _, _, _⟩) (by rfl) _ _ _ _ _ (by rfl) 16 Try.underlying105 Try.underlying5 size1 nosel S s (by rfl) (by rfl) hs16 hs ?_)
  go_ret
  exact ⟨by rw [hS]; rfl, h0.trans (hw5.mono (by omega))⟩
/-- The bytes, sealed. -/
def Sha.seal_ (l : List UInt8) : List UInt8 := Sha.sum l ++ l
/-- What the bytes are when they are opened: the error's number, and what is told. -/
def Sha.opened (l : List UInt8) : Int × List UInt8 := if l.length < 16 then (4, []) else if Sha.sum (l.drop 16) = l.take 16 then (0, l.drop 16) else (12, [])
end Proofs.Ytmhfehhpfkjloaa
end Go
