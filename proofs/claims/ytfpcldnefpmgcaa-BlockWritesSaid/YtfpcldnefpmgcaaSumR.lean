/- The document's seal of bytes answers what the plain function says. Condition: the bytes can be read and their room is at most 2^47 - 4096. -/
import Derived.Test.YtfpcldnefpmgcaaBlockR
import Derived.Test.YtfpcldnefpmgcaaSumB
namespace Go.Proofs.Ytfpcldnefpmgcaa
open Go.RowKit
theorem u64_div_byte (n k : Nat) : (n : Int) / 2 ^ (56 - 8 * k) % 256 = iu8 (UInt8.ofNat (n / 2 ^ (56 - 8 * k) % 256)) := by
  rw [iu8_ofNat_mod]; simp
/-- What the eight bytes are so far. -/
def EightRel (n : Nat) (base : Nat) (w : World) (v i : Value) (wr : World) : Prop :=
  ∃ (k : Nat) (sp : List UInt8), k ≤ 8 ∧ i = .int .i64 k ∧ OwnB 5 wr base v ((Sha.eight n).take k) sp ∧ Below base w wr
set_option maxHeartbeats 400000 in
theorem eight_any (n : Nat) (hn : n < 18446744073709551616) (w : World) :
    Calls Try.prog 40 #[.int .u64 n] w fun e w' => ∃ v sp, e = .returned v ∧ OwnB 5 w' w.heap.size v (Sha.eight n) sp ∧ Below w.heap.size w w' := by
  have HN := Lib.hid hn
  clear hn
  go_enter Try.func40, Try.ntmps40
  go_wp2
  go_loopw [3, 4] (fun v i wr => EightRel n w.heap.size w v i wr) (fun _ i _ => 8 - (intOf i).toNat)
  case atStart => exact ⟨0, [], by omega, rfl, Own.nil _ _ _ _, Below.refl _ _⟩
  case round =>
    obtain ⟨k, sp, hk, rfl, ho, hbel⟩ := hrel
    obtain ⟨M, hM⟩ : ∃ M, M = (Sha.eight n).take k := ⟨_, rfl⟩
    have hMl : M.length ≤ 8 := by rw [hM, List.length_take, Sha.eight_length]; omega
    by_cases hk8 : k < 8
    · obtain ⟨x, hx⟩ : ∃ x, x = UInt8.ofNat (n / 2 ^ (56 - 8 * k) % 256) := ⟨_, rfl⟩
      have eb : ((n : Int) / 2 ^ (56 - 8 * k) % 256) = iu8 x := by rw [hx]; exact u64_div_byte n k
      have HX := Lib.hid hx
      rw [← hM] at ho
      have HM := Lib.hid hM
      obtain ⟨A3, c3, rfl, _, _, _, _⟩ := Own.reads ho
      have hsz := hbel.size
      have hlit : Bytes (wr.alloc (.cells #[.int .u8 (iu8 x)] 5)) (some ⟨wr.heap.size, 0, none⟩) [x] := bytes_lit wr _ [x]
      replace ho := OwnB.alloc ho (.cells #[.int .u8 (iu8 x)] 5)
      clear hx hM
      go_wp2_with (show wpList _ _ _ ((⟨some 17, _, _, _, _, _⟩ : Oper) :: _) _ _; refine wpList_append_bytes (o := ⟨some 17, _, _, _, _, _⟩) (by rfl) _ _ _ (by rfl) w.heap.size _ Try.underlying22 u8info (.slice A3 M.length c3) M sp (by rfl) ho (some ⟨wr.heap.size, 0, none⟩) 1 [x] (by rfl) hlit (by simp; omega) (by simp; omega) ?_; intro v3 w9 sp3 ho3 hg3 _ _; have hb3 := (hbel.alloc hsz (.cells #[.int .u8 (iu8 x)] 5)).grown hg3 (by simp; omega) (fun k hk => (Own.lt ho k hk).1); clear hlit ho hg3 hbel)
      go_roundw
      case rel => exact ⟨k + 1, sp3, by omega, by go_num, by rw [HM.out, HX.out, ← Sha.eight_take _ _ hk8] at ho3; exact ho3, hb3⟩
      case measure => simp [intOf]; omega
    · obtain rfl : k = 8 := by omega
      rw [List.take_of_length_le (by rw [Sha.eight_length]; omega)] at ho
      clear hM hMl
      go_wp2
      go_ret
      exact ⟨_, sp, rfl, ho, hbel⟩
theorem size8m : (Try.prog.info? 62).map (·.size) = some 8 := by kernel_rfl
set_option maxHeartbeats 400000 in
set_option maxRecDepth 100000 in
theorem table_any (w : World) : Calls Try.prog 42 #[] w fun e w' => e = .returned (.agg karr) ∧ Below w.heap.size w w' := by
  have a64 := alloc64
  have hz := Blk.new w 64 zero64
  go_enter Try.func42, Try.ntmps42
  go_wp2_with (first | (show wpList _ _ _ ((⟨some 1, .build _ _, _, _, _, _⟩ : Oper) :: _) _ _; (refine wpList_run (o := ⟨some 1, .build _ _, _, _, _, _⟩) (.agg karr) (by rfl) (by kernel_rfl) ?_)) | (show wpList _ _ _ ((⟨none, _, _, _, _, _⟩ : Oper) :: _) _ _; (refine wpList_store_blk (o := ⟨none, _, _, _, _, _⟩) hz (by rfl) _ _ _ (by rfl) (by rfl) karr (by kernel_rfl) size64 zero64_size karr_size karr_one ?_; intro w1 h1 hu1)))
  refine bodyPost_ret (results_cell_row (by rfl) _ _ _ _ _ _ _ (by rfl) h1 Try.underlying64 (by rfl) size64) rfl ⟨rfl, ((Below.refl _ _).alloc (Nat.le_refl _) _).upd hu1 (Nat.le_refl _)⟩
set_option maxHeartbeats 400000 in
theorem begin_any (w : World) : Calls Try.prog 41 #[] w fun e w' => e = .returned (.agg (st8 Sha.init)) ∧ Below w.heap.size w w' := by
  have hz := zero8_new 62 w
  go_enter Try.func41, Try.ntmps41
  go_wp2_with (first | (show wpList _ _ _ ((⟨some 1, .build _ _, _, _, _, _⟩ : Oper) :: _) _ _; (refine wpList_run (o := ⟨some 1, .build _ _, _, _, _, _⟩) (.agg (st8 Sha.init)) (by rfl) (by kernel_rfl) ?_)) | (show wpList _ _ _ ((⟨none, _, _, _, _, _⟩ : Oper) :: _) _ _; (refine wpList_store_blk (o := ⟨none, _, _, _, _, _⟩) hz (by rfl) _ _ _ (by rfl) (by rfl) (st8 Sha.init) (by rfl) size8m zero8_size (st8_size _) (st8_one _) ?_; intro w1 h1 hu1)))
  refine bodyPost_ret (results_cell_row (by rfl) _ _ _ _ _ _ _ (by rfl) h1 Try.underlying62 (by rfl) size8m) rfl ⟨rfl, ((Below.refl _ _).alloc (Nat.le_refl _) _).upd hu1 (Nat.le_refl _)⟩

theorem OwnB.grown_ {e : TypeId} {w w' : World} {base : Nat} {v : Value} {l sp : List UInt8} (h : OwnB e w base v l sp) (hb : Below w.heap.size w w') : OwnB e w' base v l sp := Own.ownBelow h hb
/-- Ahead of each nought that is put behind. -/
def ZeroRel (w : World) (l : List UInt8) (v : Value) (wr : World) : Prop :=
  ∃ (i : Nat) (sp : List UInt8), i ≤ Sha.zeros l.length ∧ OwnB 5 wr (w.heap.size + 1) v (l ++ 128 :: List.replicate i 0) sp ∧ Blk wr w.heap.size 23 zero16 ∧ Below w.heap.size w wr
/-- Ahead of each block of the padded bytes. -/
def LoopRel (w : World) (H K : Nat) (l : List UInt8) (A : Option Addr) (v : Value) (wr : World) : Prop :=
  ∃ (j : Nat), 64 * j ≤ (Sha.pad l).length ∧ v = .int .i64 (64 * (j : Int)) ∧ Bytes wr A (Sha.pad l) ∧ SInv 62 w wr H K (Sha.blks (Sha.pad l) Sha.init j)
/-- The 16 bytes, of which the first i have been laid. -/
def rarr (x : Sha.St) (i : Nat) : Array Value := arr 16 fun k => if k < i then u8v (Sha.outAt x k) else .int .u8 0
theorem rarr_zero (x : Sha.St) : zero16 = rarr x 0 := arr_congr fun i _ => by simp
theorem rarr_all (x : Sha.St) : rarr x 16 = ((Sha.out x).map u8v).toArray := by
  unfold Sha.out
  rw [List.map_map, arr_list]
  exact arr_congr fun i h => by simp [h]
theorem rarr_set (x : Sha.St) (i : Nat) : (rarr x i).setIfInBounds i (.int .u8 (iu8 (Sha.outAt x i))) = rarr x (i + 1) := by
  unfold rarr
  rw [arr_set]
  refine arr_congr fun k _ => ?_
  by_cases h : k = i
  · subst h; simp [u8v]
  · rw [if_neg h]
    by_cases hk : k < i
    · rw [if_pos hk, if_pos (by omega)]
    · rw [if_neg hk, if_neg (by omega)]
/-- Ahead of each byte of the seal. -/
def OutRel (w : World) (H K D : Nat) (x : Sha.St) (v : Value) (wr : World) : Prop :=
  ∃ i : Nat, i ≤ 16 ∧ v = .int .i64 (i : Int) ∧ SInv 62 w wr H K x ∧ Blk wr D 23 (rarr x i)
set_option maxHeartbeats 1000000 in
set_option maxRecDepth 100000 in
theorem rsum_any (A : Option Addr) (c : Nat) (l : List UInt8) (hc : l.length ≤ c) (hc2 : l.length ≤ 140737488351232 ∧ c ≤ 9223372036854775807) (w : World) (hb : Bytes w A l) :
    Calls Try.prog 14 #[.slice A l.length c] w fun e w' => e = .returned (.agg ((Sha.sum l).map u8v).toArray) ∧ Below w.heap.size w w' := by
  have a16 := alloc16
  have HZ := Lib.hid (Sha.zeros_lt l.length)
  have hz16 : Blk ((w.alloc (.cells zero16 23)).alloc (.cells #[] 5)) w.heap.size 23 zero16 := (Blk.new _ _ _).alloc _
  have hbz : Below w.heap.size w ((w.alloc (.cells zero16 23)).alloc (.cells #[] 5)) := ((Below.refl _ _).alloc (Nat.le_refl _) _).alloc (by simp) _
  have hb1 : Bytes ((w.alloc (.cells zero16 23)).alloc (.cells #[] 5)) A l := hb.below hbz
  have ho0 : OwnB 5 ((w.alloc (.cells zero16 23)).alloc (.cells #[] 5)) (w.heap.size + 1) (.slice (some ⟨w.heap.size + 1, 0, none⟩) 0 0) [] [] := by
    have := Own.lit (e := 5) (size := 1) (base := w.heap.size + 1) (w.alloc (.cells zero16 23)) #[] 0 (by simp) (by simp) (by simp)
    unfold OwnB; simpa using this
  go_enter Try.func14, Try.ntmps14
  go_wp2_with (first
    | (show wpList _ _ _ ((⟨some 11, _, _, _, _, _⟩ : Oper) :: _) _ _; (refine wpList_append_bytes (o := ⟨some 11, _, _, _, _, _⟩) (by rfl) _ _ _ (by rfl) (w.heap.size + 1) _ Try.underlying22 u8info (.slice (some ⟨w.heap.size + 1, 0, none⟩) 0 0) [] [] (by rfl) ho0 A c l (by rfl) hb1 (by simp; omega) (by simp) ?_; intro v1 w1 sp1 ho1 hg1 _ _; replace hbz := hbz.grown hg1 (by simp; omega) (fun k hk => by have := (Own.lt ho0 k hk).1; omega); replace hz16 := (hg1.block _ hz16.lt (fun e => by have := (Own.lt ho0 _ e.symm).1; omega)).trans hz16; clear hb1 ho0 hg1; replace ho1 := OwnB.alloc ho1 (.cells #[.int .u8 128] 5); have hsz1 := hbz.size; have hlit : Bytes (w1.alloc (.cells #[.int .u8 128] 5)) (some ⟨w1.heap.size, 0, none⟩) [128] := bytes_lit w1 _ [128]))
    | (show wpList _ _ _ ((⟨some 14, _, _, _, _, _⟩ : Oper) :: _) _ _; (refine wpList_append_bytes (o := ⟨some 14, _, _, _, _, _⟩) (by rfl) _ _ _ (by rfl) (w.heap.size + 1) _ Try.underlying22 u8info v1 ([] ++ l) sp1 (by rfl) ho1 (some ⟨w1.heap.size, 0, none⟩) 1 [128] (by rfl) hlit (by simp; omega) (by have := Blk.lt hz16; simp; omega) ?_; intro v2 w2 sp2 ho2 hg2 _ _; have hbz2 := (hbz.alloc hsz1 (.cells #[.int .u8 128] 5)).grown hg2 (by simp; omega) (fun k hk => by have := (Own.lt ho1 k hk).1; omega); have hz2 := (hg2.block _ (Blk.alloc hz16 _).lt (fun e => by have := (Own.lt ho1 _ e.symm).1; omega)).trans (Blk.alloc hz16 (.cells #[.int .u8 128] 5)); clear hbz hz16 hlit ho1 hg2 hsz1)))
  have ho3 : OwnB 5 w2 (w.heap.size + 1) v2 (l ++ 128 :: List.replicate 0 0) sp2 := by simpa using ho2
  clear ho2
  go_loopw [3] (fun v wr => ZeroRel w l v wr) (fun v _ => l.length + 100 - lenOf v)
  case atStart => exact ⟨0, _, by omega, ho3, hz2, hbz2⟩
  case round =>
    clear ho3 hz2 hbz2
    obtain ⟨i, sp, hi, ho, hrr, hbel⟩ := hrel
    obtain ⟨A2, c2, hv, _, _, _, _⟩ := Own.reads ho
    subst hv
    obtain ⟨L, hL⟩ : ∃ L, L = l ++ 128 :: List.replicate i 0 := ⟨_, rfl⟩
    rw [← hL] at ho ⊢
    have hLl : L.length = l.length + 1 + i := by rw [hL]; simp; omega
    have HL := Lib.hid hL
    have HLl := Lib.hid hLl
    have hsz := hbel.size
    have hzl := HZ.out
    by_cases hlt : i < Sha.zeros l.length
    · have ht1 : (((L.length : Nat) : Int) % 64 != 56) = true := by rw [bne_iff_ne]; have := Sha.zeros_not' hlt; rw [← hLl] at this; omega
      have hLle : L.length ≤ 140737488351400 := by omega
      have hLlt : L.length < l.length + 100 := by omega
      have hlit : Bytes (wr.alloc (.cells #[.int .u8 0] 5)) (some ⟨wr.heap.size, 0, none⟩) [0] := bytes_lit wr _ [0]
      replace ho := OwnB.alloc ho (.cells #[.int .u8 0] 5)
      have hrlt := hrr.lt
      clear hL hLl hzl
      go_wp2_with (show wpList _ _ _ ((⟨some 21, _, _, _, _, _⟩ : Oper) :: _) _ _; refine wpList_append_bytes (o := ⟨some 21, _, _, _, _, _⟩) (by rfl) _ _ _ (by rfl) (w.heap.size + 1) _ Try.underlying22 u8info (.slice A2 L.length c2) L sp (by rfl) ho (some ⟨wr.heap.size, 0, none⟩) 1 [0] (by rfl) hlit (by simp; omega) (by simp; omega) ?_; intro v3 w9 sp3 ho3 hg3 _ _; have hb3 := (hbel.alloc hsz (.cells #[.int .u8 0] 5)).grown hg3 (by simp; omega) (fun k hk => by have := (Own.lt ho k hk).1; omega); have hz3 := (hg3.block _ (Blk.alloc hrr _).lt (fun e => by have := (Own.lt ho _ e.symm).1; omega)).trans (Blk.alloc hrr (.cells #[.int .u8 0] 5)); clear hlit ho hg3 hbel hrr)
      obtain ⟨A3, c3, hv3, _⟩ := Own.reads ho3
      subst hv3
      go_roundw
      case rel => exact ⟨i + 1, sp3, by omega, by have e : L ++ [0] = l ++ 128 :: List.replicate (i + 1) 0 := by { rw [HL.out]; simp [List.replicate_succ'] }; rw [← e]; exact ho3, hz3, hb3⟩
      case measure => simp [lenOf]; omega
    · have e : i = Sha.zeros l.length := by omega
      subst e
      have ht1 : (((L.length : Nat) : Int) % 64 != 56) = false := by
        have := Sha.zeros_is' l.length
        rw [← hLl] at this
        have h2 : ((L.length : Nat) : Int) % 64 = 56 := by omega
        rw [h2]; rfl
      have hLle : L.length ≤ 140737488351400 := by omega
      clear hL hLl hzl
      go_wp2_with fail
      refine (eight_any (8 * l.length) (by omega) _).mono ?_
      rintro e w3 ⟨v8, sp8, rfl, ho8, hb8⟩
      obtain ⟨m, hm⟩ : ∃ m, m = Sha.eight (8 * l.length) := ⟨_, rfl⟩
      rw [← hm] at ho8
      have hml : m.length ≤ 8 := by rw [hm, Sha.eight_length]; omega
      obtain ⟨A8, c8, hv8, _, _, hr8, _⟩ := Own.reads ho8
      subst hv8
      have hr8b : Bytes w3 A8 m := hr8
      replace ho := OwnB.grown_ ho hb8
      replace hrr := hrr.below hb8 hrr.lt
      replace hbel := hbel.trans (hb8.mono hsz)
      have hP : L ++ m = Sha.pad l := by rw [HL.out, hm, Sha.pad, Sha.tail, Nat.mul_comm]; simp
      have hsz3 := hbel.size
      have hrlt := hrr.lt
      have HP := Lib.hid hP
      clear hm hr8 ho8 hP hb8 hsz
      go_wp2_with (first
        | (show wpList _ _ _ ((⟨some 28, _, _, _, _, _⟩ : Oper) :: _) _ _; refine wpList_append_bytes (o := ⟨some 28, _, _, _, _, _⟩) (by rfl) _ _ _ (by rfl) (w.heap.size + 1) _ Try.underlying22 u8info (.slice A2 L.length c2) L sp (by rfl) ho A8 c8 m (by rfl) hr8b (by omega) (by omega) ?_; intro v4 w4 sp4 ho4 hg4 _ _; have hb4 := hbel.grown hg4 hsz3 (fun k hk => by have := (Own.lt ho k hk).1; omega); have hz4 : Blk w4 w.heap.size 23 zero16 := (hg4.block _ hrlt (fun e => by have := (Own.lt ho _ e.symm).1; omega)).trans hrr; clear ho hg4 hbel hrr hr8b hsz3 hrlt)
        | fail)
      refine (begin_any _).mono ?_
      rintro e w5 ⟨rfl, hb5⟩
      have ho5 := OwnB.grown_ ho4 hb5
      have hz5 := hz4.below hb5 hz4.lt
      have hbel5 := hb4.trans (hb5.mono hb4.size)
      have hH8 := zero8_new 62 w5
      have hz5' := hz5.alloc (.cells #[.int .u32 0, .int .u32 0, .int .u32 0, .int .u32 0, .int .u32 0, .int .u32 0, .int .u32 0, .int .u32 0] 62)
      have hlt5 := hz5.lt
      rw [HP.out] at ho5
      clear ho4 hz4 hb4 hb5 hz5
      have hge : ∀ k, v4.ownBlock = some k → k < w5.heap.size := fun k hk => (Own.lt ho5 k hk).2
      have HG := Lib.hid hge
      have HO5 := Lib.hid ho5
      clear hge ho5
      go_wp2_with (first
        | (show wpList _ _ _ ((⟨none, .store _ (.tmp 4) (.tmp 29), _, _, _, _⟩ : Oper) :: _) _ _; (refine wpList_store_blk (o := ⟨none, _, _, _, _, _⟩) hH8 (by rfl) _ _ _ (by rfl) (by rfl) (st8 Sha.init) (by rfl) size8m zero8_size (st8_size _) (st8_one _) ?_; intro w6 h6 hu6; have hz6 := hz5'.upd hu6 (by omega); have hbel6 := (hbel5.alloc (by omega) (.cells #[.int .u32 0, .int .u32 0, .int .u32 0, .int .u32 0, .int .u32 0, .int .u32 0, .int .u32 0, .int .u32 0] 62)).upd hu6 (by omega); have ho6 := (OwnB.alloc HO5.out (.cells #[.int .u32 0, .int .u32 0, .int .u32 0, .int .u32 0, .int .u32 0, .int .u32 0, .int .u32 0, .int .u32 0] 62)).upd hu6 (fun hk => by have := HG.out _ hk; omega); have hs6 := hu6.size; clear hu6 hH8 hz5' hbel5))
        | fail)
      refine (table_any _).mono ?_
      rintro e w7 ⟨rfl, hb7⟩
      have hH7 := (h6.below hb7 h6.lt).alloc (.cells zero64 64)
      have hz7 := (hz6.below hb7 hz6.lt).alloc (.cells zero64 64)
      have hbel7 := (hbel6.trans (hb7.mono hbel6.size)).alloc (by have := hbel6.size; have := hb7.size; omega) (.cells zero64 64)
      have ho7 := OwnB.alloc (OwnB.grown_ ho6 hb7) (.cells zero64 64)
      have HO7 := Lib.hid ho7
      have hK7 := Blk.new w7 64 zero64
      have hlt7 := (h6.below hb7 h6.lt).lt
      clear h6 hz6 hbel6 ho6 hb7 ho7 hs6
      generalize w5.heap.size = H at hlt5 hH7 hlt7 HG ⊢
      go_wp2_with (first
        | (show wpList _ _ _ ((⟨none, .store _ (.tmp 5) (.tmp 30), _, _, _, _⟩ : Oper) :: _) _ _; (refine wpList_store_blk (o := ⟨none, _, _, _, _, _⟩) hK7 (by rfl) _ _ _ (by rfl) (by rfl) karr (by rfl) size64 zero64_size karr_size karr_one ?_; intro w8 h8 hu8; have hI : SInv 62 w w8 H w7.heap.size Sha.init := ⟨hH7.upd hu8 (by omega), h8, hz7.upd hu8 (by omega), hlt5, hlt7, hbel7.upd hu8 (by omega)⟩; have ho8 := HO7.out.upd hu8 (fun hk => by have := HG.out _ hk; omega); clear hu8 hK7 hH7 hz7 hbel7))
        | fail)
      generalize w7.heap.size = K at hI hlt7 ⊢
      obtain ⟨A4, c4, hv4, _, _, hr4, _⟩ := Own.reads ho8
      subst hv4
      have hne : ∀ ad, A4 = some ad → ad.block ≠ H := fun ad hd => by have := HG.out ad.block (by rw [hd]; rfl); omega
      have hr : Bytes w8 A4 (Sha.pad l) := hr4
      have hplen : (Sha.pad l).length ≤ 140737488351400 := by have := HZ.out; rw [Sha.pad_length]; omega
      have hpm := Sha.pad_mod l
      have HPM := Lib.hid hpm
      clear hr4 ho8 hpm
      go_loopw [6] (fun v wr => LoopRel w H K l A4 v wr) (fun v _ => (Sha.pad l).length - (intOf v).toNat)
      case atStart => exact ⟨0, by omega, rfl, hr, hI⟩
      case round =>
        clear hI hr
        obtain ⟨j, hj, rfl, hr, hI⟩ := hrel
        by_cases hlt : 64 * j < (Sha.pad l).length
        · have hpm := HPM.out
          have hge : 64 * j + 64 ≤ (Sha.pad l).length := by omega
          clear hpm
          obtain ⟨b, off, hA, hbl, hcell⟩ := hr.at_ (by omega)
          subst hA
          have HC := Lib.hid hcell
          have HR := Lib.hid hr
          have HP2 := Lib.hid hge
          clear hcell hr hge
          go_wp2_with (first
            | (show wpList _ _ _ ((⟨some 37, _, _, _, _, _⟩ : Oper) :: _) _ _; refine wpList_load_blk (o := ⟨some 37, _, _, _, _, _⟩) hI.hh (by rfl) _ _ (by rfl) (by rfl) _ Try.underlying62 (by rfl) size8m (st8_size _) ?_)
            | (show wpList _ _ _ ((⟨some 38, _, _, _, _, _⟩ : Oper) :: _) _ _; refine wpList_load_blk (o := ⟨some 38, _, _, _, _, _⟩) hI.kk (by rfl) _ _ (by rfl) (by rfl) _ Try.underlying64 (by rfl) size64 karr_size ?_)
            | fail)
          refine (rblock_any (Sha.blks (Sha.pad l) Sha.init j) b off _ c4 (Sha.pad l) (64 * j) rfl HP2.out (by omega) _ hbl HC.out).mono ?_
          rintro e w9 ⟨rfl, hb9⟩
          replace hI := hI.below hb9
          have hr9 := Bytes.below HR.out hb9
          have HR9 := Lib.hid hr9
          clear hr9 hb9
          go_wp2_with (show wpList _ _ _ ((⟨none, .store _ (.tmp 4) (.tmp 41), _, _, _, _⟩ : Oper) :: _) _ _; refine wpList_store_blk (o := ⟨none, _, _, _, _, _⟩) hI.hh (by rfl) _ _ _ (by rfl) (by rfl) (st8 (Sha.blk (Sha.blks (Sha.pad l) Sha.init j) (Sha.pad l) (64 * j))) (by rfl) size8m (st8_size _) (st8_size _) (st8_one _) ?_; intro w6 h6 hu6; have hI6 := hI.stored h6 hu6; have hr6 := HR9.out.upd hu6 hne; have HR6 := Lib.hid hr6; clear hr6 hu6 hI h6)
          go_roundw
          case rel => exact ⟨j + 1, by have := HP2.out; omega, by go_num, HR6.out, hI6⟩
          case measure => have := HP2.out; simp [intOf]; omega
        · have hpm := HPM.out
          have HS := Lib.hid (show j = (Sha.pad l).length / 64 by omega)
          have hjl : 64 * j = (Sha.pad l).length := by omega
          have HJ := Lib.hid hjl
          have ht : decide (64 * (j : Int) < ((Sha.pad l).length : Int)) = false := by simp; omega
          clear hpm hlt hr hjl
          obtain ⟨x, hx⟩ : ∃ x, x = Sha.blks (Sha.pad l) Sha.init j := ⟨_, rfl⟩
          rw [← hx] at hI
          have HX := Lib.hid (show Sha.sum l = Sha.out x by rw [hx, HS.out]; rfl)
          clear hx
          have hD : Blk (wr.alloc (.cells zero16 23)) wr.heap.size 23 (rarr x 0) := (Blk.new _ _ _).sub (rarr_zero x)
          have hKD := hI.kk.lt
          have hI2 := hI.alloc (.cells zero16 23)
          go_wp2
          generalize wr.heap.size = D at hD hKD ⊢
          go_loopw [8] (fun v wr => OutRel w H K D x v wr) (fun v _ => 16 - (intOf v).toNat)
          case atStart => exact ⟨0, by omega, rfl, hI2, hD⟩
          case round =>
            clear hI hI2 hD
            obtain ⟨i, hi, rfl, hI, hD⟩ := hrel
            by_cases hi4 : i < 16
            · obtain ⟨q, hq⟩ : ∃ q, q = i / 4 := ⟨_, rfl⟩
              obtain ⟨r, hr⟩ : ∃ r, r = i % 4 := ⟨_, rfl⟩
              have hq4 : q < 8 := by omega
              have hr4 : r < 4 := by omega
              have eq1 : (i : Int) / 4 = (q : Int) := by omega
              have er1 : (i : Int) % 4 = (r : Int) := by omega
              obtain ⟨y, hy⟩ : ∃ y, y = Sha.get x q := ⟨_, rfl⟩
              have cy := (hI.hh.cell q).trans (st8_get x q (by omega))
              rw [← hy] at cy
              have hb0 : iu32 y / 2 ^ (24 - 8 * r) % 256 = iu8 (Sha.byte y r) := byte_eq y r
              have ho : Sha.outAt x i = Sha.byte y r := by rw [hy, hq, hr]; rfl
              have HO := Lib.hid ho
              have d0 := (hD.cell i).trans (arr_at _ hi4)
              have f0 := hD.frozen i
              clear hy hq hr ho
              go_wp2
              go_roundw
              case rel =>
                have h1 := hD.set_ i (.int .u8 (iu8 (Sha.byte y r)))
                rw [← HO.out, rarr_set x i] at h1
                exact ⟨i + 1, by omega, by go_num, hI.off hKD _, by rw [← HO.out]; exact h1⟩
              case measure => simp [intOf]; omega
            · obtain rfl : i = 16 := by omega
              rw [rarr_all] at hD
              go_wp2_with (first
                | (show wpList _ _ _ ((⟨some 58, _, _, _, _, _⟩ : Oper) :: _) _ _; refine wpList_load_blk (o := ⟨some 58, _, _, _, _, _⟩) hD (by rfl) _ _ (by rfl) (by rfl) _ Try.underlying23 (by rfl) size16 (by simp [Sha.out]) ?_)
                | (show wpList _ _ _ ((⟨none, .store _ (.tmp 2) (.tmp 58), _, _, _, _⟩ : Oper) :: _) _ _; refine wpList_store_blk (o := ⟨none, _, _, _, _, _⟩) hI.rr (by rfl) _ _ _ (by rfl) (by rfl) ((Sha.out x).map u8v).toArray (by rfl) size16 (arr_size _ _) (by simp [Sha.out]) (u8_all _) ?_; intro w6 h6 hu6; have hbel := hI.bel.upd hu6 (Nat.le_refl _); clear hu6 hI hD))
              refine bodyPost_ret (results_cell_row (by rfl) _ _ _ _ _ _ _ (by rfl) h6 Try.underlying23 (by rfl) (size16.trans (by simp [Sha.out]))) rfl ⟨?_, hbel⟩
              rw [HX.out]
end Go.Proofs.Ytfpcldnefpmgcaa
