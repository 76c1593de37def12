/- The document's seal of bytes answers what the plain function says. Condition: the bytes can be read and their room is at most 2^47 - 4096. -/
import Derived.Test.YtmhfehhpfkjloaaMSuperblockKnown5
import Derived.Stop.BytesEq
import Derived.Deep.MidRow
namespace Go.Proofs.Ytmhfehhpfkjloaa
open Go.RowKit
theorem u64_div_byte (n k : Nat) : (n : Int) / 2 ^ (56 - 8 * k) % 256 = iu8 (UInt8.ofNat (n / 2 ^ (56 - 8 * k) % 256)) := by
  rw [iu8_ofNat_mod]; simp
/-- What the eight bytes are so far. -/
def EightRel (n : Nat) (base : Nat) (w : World) (v i : Value) (wr : World) : Prop :=
  ∃ (k : Nat) (sp : List UInt8), k ≤ 8 ∧ i = .int .i64 k ∧ OwnB 5 wr base v ((Sha.eight n).take k) sp ∧ Below base w wr
set_option maxHeartbeats 400000 in
theorem eight_any (n : Nat) (hn : n < 18446744073709551616) (w : World) :
    Calls Try.prog 107 #[.int .u64 n] w fun e w' => ∃ v sp, e = .returned v ∧ OwnB 5 w' w.heap.size v (Sha.eight n) sp ∧ Below w.heap.size w w' := by
  have HN := Lib.hid hn
  clear hn
  go_enter Try.func107, Try.ntmps107
  go_wp2
  go_loopw [3, 4] (fun v i wr => EightRel n w.heap.size w v i wr) (fun _ i _ => 8 - (intOf i).toNat)
  case atStart => exact ⟨0, [], by omega, rfl, OwnsC.nil _ _ _ _, Below.refl _ _⟩
  case round =>
    obtain ⟨k, sp, hk, rfl, ho, hbel⟩ := hrel
    obtain ⟨M, hM⟩ : ∃ M, M = (Sha.eight n).take k := ⟨_, rfl⟩
    have hMl : M.length ≤ 8 := by rw [hM, List.length_take, Sha.eight_length]; omega
    by_cases hk8 : k < 8
    · obtain ⟨x, hx⟩ : ∃ x, x = UInt8.ofNat (n / 2 ^ (56 - 8 * k) % 256) := ⟨_, rfl⟩
      have eb : ((n : Int) / 2 ^ (56 - 8 * k) % 256) = iu8 x := by rw [hx]; exact u64_div_byte n k
      have HX := Lib.hid hx
      rw [← hM] at ho
      have HM := Lib.hid hM
      obtain ⟨A3, c3, rfl, _, _, _, _⟩ := OwnsC.reads ho
      have hsz := hbel.size
      have hlit : Bytes (wr.alloc (.cells #[.int .u8 (iu8 x)] 5)) (some ⟨wr.heap.size, 0, none⟩) [x] := bytes_lit wr _ [x]
      replace ho := OwnB.alloc ho (.cells #[.int .u8 (iu8 x)] 5)
      clear hx hM
      go_wp2_with (show wpList _ _ _ ((⟨some 17, _, _, _, _, _⟩ : Oper) :: _) _ _; refine wpList_append_bytes (o := ⟨some 17, _, _, _, _, _⟩) (by rfl) _ _ _ (by rfl) w.heap.size _ Try.underlying43 u8info (.slice A3 M.length c3) M sp (by rfl) ho (some ⟨wr.heap.size, 0, none⟩) 1 [x] (by rfl) hlit (by simp; omega) (by simp; omega) ?_; intro v3 w9 sp3 ho3 hg3 _ _; have hb3 := (hbel.alloc hsz (.cells #[.int .u8 (iu8 x)] 5)).grown hg3 (by simp; omega) (fun k hk => (OwnsC.lt ho k hk).1); clear hlit ho hg3 hbel)
      go_roundw
      case rel => exact ⟨k + 1, sp3, by omega, by go_num, by rw [HM.out, HX.out, ← Sha.eight_take _ _ hk8] at ho3; exact ho3, hb3⟩
      case measure => simp [intOf]; omega
    · obtain rfl : k = 8 := by omega
      rw [List.take_of_length_le (by rw [Sha.eight_length]; omega)] at ho
      clear hM hMl
      go_wp2
      go_ret
      exact ⟨_, sp, rfl, ho, hbel⟩
theorem size8m : (Try.prog.info? 156).map (·.size) = some 8 := by kernel_rfl
set_option maxHeartbeats 400000 in
set_option maxRecDepth 100000 in
theorem table_any (w : World) : Calls Try.prog 109 #[] w fun e w' => e = .returned (.agg karr) ∧ Below w.heap.size w w' := by
  have a64 := alloc64
  have hz := Blk.new w 158 zero64
  go_enter Try.func109, Try.ntmps109
  go_wp2_with (first | (show wpList _ _ _ ((⟨some 1, .build _ _, _, _, _, _⟩ : Oper) :: _) _ _; (refine wpList_run (o := ⟨some 1, .build _ _, _, _, _, _⟩) (.agg karr) (by rfl) (by kernel_rfl) ?_)) | (show wpList _ _ _ ((⟨none, _, _, _, _, _⟩ : Oper) :: _) _ _; (refine wpList_store_blk (o := ⟨none, _, _, _, _, _⟩) hz (by rfl) _ _ _ (by rfl) (by rfl) karr (by kernel_rfl) size64 zero64_size karr_size karr_one ?_; intro w1 h1 hu1)))
  refine bodyPost_ret (results_cell_row (by rfl) _ _ _ _ _ _ _ (by rfl) h1 Try.underlying158 (by rfl) size64) rfl ⟨rfl, ((Below.refl _ _).alloc (Nat.le_refl _) _).upd hu1 (Nat.le_refl _)⟩
set_option maxHeartbeats 400000 in
theorem begin_any (w : World) : Calls Try.prog 108 #[] w fun e w' => e = .returned (.agg (st8 Sha.init)) ∧ Below w.heap.size w w' := by
  have hz := zero8_new 156 w
  go_enter Try.func108, Try.ntmps108
  go_wp2_with (first | (show wpList _ _ _ ((⟨some 1, .build _ _, _, _, _, _⟩ : Oper) :: _) _ _; (refine wpList_run (o := ⟨some 1, .build _ _, _, _, _, _⟩) (.agg (st8 Sha.init)) (by rfl) (by kernel_rfl) ?_)) | (show wpList _ _ _ ((⟨none, _, _, _, _, _⟩ : Oper) :: _) _ _; (refine wpList_store_blk (o := ⟨none, _, _, _, _, _⟩) hz (by rfl) _ _ _ (by rfl) (by rfl) (st8 Sha.init) (by rfl) size8m zero8_size (st8_size _) (st8_one _) ?_; intro w1 h1 hu1)))
  refine bodyPost_ret (results_cell_row (by rfl) _ _ _ _ _ _ _ (by rfl) h1 Try.underlying156 (by rfl) size8m) rfl ⟨rfl, ((Below.refl _ _).alloc (Nat.le_refl _) _).upd hu1 (Nat.le_refl _)⟩

theorem OwnB.grown_ {e : TypeId} {w w' : World} {base : Nat} {v : Value} {l sp : List UInt8} (h : OwnB e w base v l sp) (hb : Below w.heap.size w w') : OwnB e w' base v l sp := OwnsC.ownBelow h hb
/-- Ahead of each nought that is put behind. -/
def ZeroRel (w : World) (l : List UInt8) (v : Value) (wr : World) : Prop :=
  ∃ (i : Nat) (sp : List UInt8), i ≤ Sha.zeros l.length ∧ OwnB 5 wr (w.heap.size + 1) v (l ++ 128 :: List.replicate i 0) sp ∧ Blk wr w.heap.size 105 zero16 ∧ Below w.heap.size w wr
/-- Ahead of each block of the padded bytes. -/
def LoopRel (w : World) (H K : Nat) (l : List UInt8) (A : Option Addr) (v : Value) (wr : World) : Prop :=
  ∃ (j : Nat), 64 * j ≤ (Sha.pad l).length ∧ v = .int .i64 (64 * (j : Int)) ∧ Bytes wr A (Sha.pad l) ∧ SInv 156 w wr H K (Sha.blks (Sha.pad l) Sha.init j)
/-- The 16 bytes, of which the first i have been laid. -/
def rarr (x : Sha.St) (i : Nat) : Array Value := arr 16 fun k => if k < i then u8v (Sha.outAt x k) else .int .u8 0
theorem rarr_zero (x : Sha.St) : zero16 = rarr x 0 := arr_congr fun i _ => by simp
theorem rarr_all (x : Sha.St) : rarr x 16 = ((Sha.out x).map u8v).toArray := by
  unfold Sha.out
  rw [List.map_map, arr_list]
  exact arr_congr fun i h => by simp [h]
theorem rarr_set (x : Sha.St) (i : Nat) : (rarr x i).setIfInBounds i (.int .u8 (iu8 (Sha.outAt x i))) = rarr x (i + 1) := by
  unfold rarr
  rw [arr_set]
  refine arr_congr fun k _ => ?_
  by_cases h : k = i
  · subst h; simp [u8v]
  · rw [if_neg h]
    by_cases hk : k < i
    · rw [if_pos hk, if_pos (by omega)]
    · rw [if_neg hk, if_neg (by omega)]
/-- Ahead of each byte of the seal. -/
def OutRel (w : World) (H K D : Nat) (x : Sha.St) (v : Value) (wr : World) : Prop :=
  ∃ i : Nat, i ≤ 16 ∧ v = .int .i64 (i : Int) ∧ SInv 156 w wr H K x ∧ Blk wr D 105 (rarr x i)
set_option maxHeartbeats 1000000 in
set_option maxRecDepth 100000 in
theorem rsum_any (A : Option Addr) (c : Nat) (l : List UInt8) (_ : l.length ≤ c) (hc2 : l.length ≤ 140737488351232 ∧ c ≤ 9223372036854775807) (w : World) (hb : Bytes w A l) :
    Calls Try.prog 95 #[.slice A l.length c] w fun e w' => e = .returned (.agg ((Sha.sum l).map u8v).toArray) ∧ Below w.heap.size w w' := by
  have a16 := alloc16
  have HZ := Lib.hid (Sha.zeros_lt l.length)
  have hz16 : Blk ((w.alloc (.cells zero16 105)).alloc (.cells #[] 5)) w.heap.size 105 zero16 := (Blk.new _ _ _).alloc _
  have hbz : Below w.heap.size w ((w.alloc (.cells zero16 105)).alloc (.cells #[] 5)) := ((Below.refl _ _).alloc (Nat.le_refl _) _).alloc (by simp) _
  have hb1 : Bytes ((w.alloc (.cells zero16 105)).alloc (.cells #[] 5)) A l := hb.below hbz
  have ho0 : OwnB 5 ((w.alloc (.cells zero16 105)).alloc (.cells #[] 5)) (w.heap.size + 1) (.slice (some ⟨w.heap.size + 1, 0, none⟩) 0 0) [] [] := by
    have := OwnsC.lit (e := 5) (size := 1) (base := w.heap.size + 1) (w.alloc (.cells zero16 105)) #[] 0 (by simp) (by simp) (by simp)
    unfold OwnB; simpa using this
  go_enter Try.func95, Try.ntmps95
  go_wp2_with (first
    | (show wpList _ _ _ ((⟨some 11, _, _, _, _, _⟩ : Oper) :: _) _ _; (refine wpList_append_bytes (o := ⟨some 11, _, _, _, _, _⟩) (by rfl) _ _ _ (by rfl) (w.heap.size + 1) _ Try.underlying43 u8info (.slice (some ⟨w.heap.size + 1, 0, none⟩) 0 0) [] [] (by rfl) ho0 A c l (by rfl) hb1 (by simp; omega) (by simp) ?_; intro v1 w1 sp1 ho1 hg1 _ _; replace hbz := hbz.grown hg1 (by simp; omega) (fun k hk => by have := (OwnsC.lt ho0 k hk).1; omega); replace hz16 := (hg1.block _ hz16.lt (fun e => by have := (OwnsC.lt ho0 _ e.symm).1; omega)).trans hz16; clear hb1 ho0 hg1; replace ho1 := OwnB.alloc ho1 (.cells #[.int .u8 128] 5); have hsz1 := hbz.size; have hlit : Bytes (w1.alloc (.cells #[.int .u8 128] 5)) (some ⟨w1.heap.size, 0, none⟩) [128] := bytes_lit w1 _ [128]))
    | (show wpList _ _ _ ((⟨some 14, _, _, _, _, _⟩ : Oper) :: _) _ _; (refine wpList_append_bytes (o := ⟨some 14, _, _, _, _, _⟩) (by rfl) _ _ _ (by rfl) (w.heap.size + 1) _ Try.underlying43 u8info v1 ([] ++ l) sp1 (by rfl) ho1 (some ⟨w1.heap.size, 0, none⟩) 1 [128] (by rfl) hlit (by simp; omega) (by have := Blk.lt hz16; simp; omega) ?_; intro v2 w2 sp2 ho2 hg2 _ _; have hbz2 := (hbz.alloc hsz1 (.cells #[.int .u8 128] 5)).grown hg2 (by simp; omega) (fun k hk => by have := (OwnsC.lt ho1 k hk).1; omega); have hz2 := (hg2.block _ (Blk.alloc hz16 _).lt (fun e => by have := (OwnsC.lt ho1 _ e.symm).1; omega)).trans (Blk.alloc hz16 (.cells #[.int .u8 128] 5)); clear hbz hz16 hlit ho1 hg2 hsz1)))
  have ho3 : OwnB 5 w2 (w.heap.size + 1) v2 (l ++ 128 :: List.replicate 0 0) sp2 := by simpa using ho2
  clear ho2
  go_loopw [3] (fun v wr => ZeroRel w l v wr) (fun v _ => l.length + 100 - lenOf v)
  case atStart => exact ⟨0, _, by omega, ho3, hz2, hbz2⟩
  case round =>
    clear ho3 hz2 hbz2
    obtain ⟨i, sp, hi, ho, hrr, hbel⟩ := hrel
    obtain ⟨A2, c2, hv, _, _, _, _⟩ := OwnsC.reads ho
    subst hv
    obtain ⟨L, hL⟩ : ∃ L, L = l ++ 128 :: List.replicate i 0 := ⟨_, rfl⟩
    rw [← hL] at ho ⊢
    have hLl : L.length = l.length + 1 + i := by rw [hL]; simp; omega
    have HL := Lib.hid hL
    have HLl := Lib.hid hLl
    have hsz := hbel.size
    have hzl := HZ.out
    by_cases hlt : i < Sha.zeros l.length
    · have ht1 : (((L.length : Nat) : Int) % 64 != 56) = true := by rw [bne_iff_ne]; have := Sha.zeros_not' hlt; rw [← hLl] at this; omega
      have hLle : L.length ≤ 140737488351400 := by omega
      have hLlt : L.length < l.length + 100 := by omega
      have hlit : Bytes (wr.alloc (.cells #[.int .u8 0] 5)) (some ⟨wr.heap.size, 0, none⟩) [0] := bytes_lit wr _ [0]
      replace ho := OwnB.alloc ho (.cells #[.int .u8 0] 5)
      have hrlt := hrr.lt
      clear hL hLl hzl
      go_wp2_with (show wpList _ _ _ ((⟨some 21, _, _, _, _, _⟩ : Oper) :: _) _ _; refine wpList_append_bytes (o := ⟨some 21, _, _, _, _, _⟩) (by rfl) _ _ _ (by rfl) (w.heap.size + 1) _ Try.underlying43 u8info (.slice A2 L.length c2) L sp (by rfl) ho (some ⟨wr.heap.size, 0, none⟩) 1 [0] (by rfl) hlit (by simp; omega) (by simp; omega) ?_; intro v3 w9 sp3 ho3 hg3 _ _; have hb3 := (hbel.alloc hsz (.cells #[.int .u8 0] 5)).grown hg3 (by simp; omega) (fun k hk => by have := (OwnsC.lt ho k hk).1; omega); have hz3 := (hg3.block _ (Blk.alloc hrr _).lt (fun e => by have := (OwnsC.lt ho _ e.symm).1; omega)).trans (Blk.alloc hrr (.cells #[.int .u8 0] 5)); clear hlit ho hg3 hbel hrr)
      obtain ⟨A3, c3, hv3, _⟩ := OwnsC.reads ho3
      subst hv3
      go_roundw
      case rel => exact ⟨i + 1, sp3, by omega, by have e : L ++ [0] = l ++ 128 :: List.replicate (i + 1) 0 := by { rw [HL.out]; simp [List.replicate_succ'] }; rw [← e]; exact ho3, hz3, hb3⟩
      case measure => simp [lenOf]; omega
    · have e : i = Sha.zeros l.length := by omega
      subst e
      have ht1 : (((L.length : Nat) : Int) % 64 != 56) = false := by
        have := Sha.zeros_is' l.length
        rw [← hLl] at this
        have h2 : ((L.length : Nat) : Int) % 64 = 56 := by omega
        rw [h2]; rfl
      have hLle : L.length ≤ 140737488351400 := by omega
      clear hL hLl hzl
      go_wp2_with fail
      refine (eight_any (8 * l.length) (by omega) _).mono ?_
      rintro e w3 ⟨v8, sp8, rfl, ho8, hb8⟩
      obtain ⟨m, hm⟩ : ∃ m, m = Sha.eight (8 * l.length) := ⟨_, rfl⟩
      rw [← hm] at ho8
      have hml : m.length ≤ 8 := by rw [hm, Sha.eight_length]; omega
      obtain ⟨A8, c8, hv8, _, _, hr8, _⟩ := OwnsC.reads ho8
      subst hv8
      have hr8b : Bytes w3 A8 m := hr8
      replace ho := OwnB.grown_ ho hb8
      replace hrr := hrr.below hb8 hrr.lt
      replace hbel := hbel.trans (hb8.mono hsz)
      have hP : L ++ m = Sha.pad l := by rw [HL.out, hm, Sha.pad, Sha.tail, Nat.mul_comm]; simp
      have hsz3 := hbel.size
      have hrlt := hrr.lt
      have HP := Lib.hid hP
      clear hm hr8 ho8 hP hb8 hsz
      go_wp2_with (first
        | (show wpList _ _ _ ((⟨some 28, _, _, _, _, _⟩ : Oper) :: _) _ _; refine wpList_append_bytes (o := ⟨some 28, _, _, _, _, _⟩) (by rfl) _ _ _ (by rfl) (w.heap.size + 1) _ Try.underlying43 u8info (.slice A2 L.length c2) L sp (by rfl) ho A8 c8 m (by rfl) hr8b (by omega) (by omega) ?_; intro v4 w4 sp4 ho4 hg4 _ _; have hb4 := hbel.grown hg4 hsz3 (fun k hk => by have := (OwnsC.lt ho k hk).1; omega); have hz4 : Blk w4 w.heap.size 105 zero16 := (hg4.block _ hrlt (fun e => by have := (OwnsC.lt ho _ e.symm).1; omega)).trans hrr; clear ho hg4 hbel hrr hr8b hsz3 hrlt)
        | fail)
      refine (begin_any _).mono ?_
      rintro e w5 ⟨rfl, hb5⟩
      have ho5 := OwnB.grown_ ho4 hb5
      have hz5 := hz4.below hb5 hz4.lt
      have hbel5 := hb4.trans (hb5.mono hb4.size)
      have hH8 := zero8_new 156 w5
      have hz5' := hz5.alloc (.cells #[.int .u32 0, .int .u32 0, .int .u32 0, .int .u32 0, .int .u32 0, .int .u32 0, .int .u32 0, .int .u32 0] 156)
      have hlt5 := hz5.lt
      rw [HP.out] at ho5
      clear ho4 hz4 hb4 hb5 hz5
      have hge : ∀ k, v4.ownBlock = some k → k < w5.heap.size := fun k hk => (OwnsC.lt ho5 k hk).2
      have HG := Lib.hid hge
      have HO5 := Lib.hid ho5
      clear hge ho5
      go_wp2_with (first
        | (show wpList _ _ _ ((⟨none, .store _ (.tmp 4) (.tmp 29), _, _, _, _⟩ : Oper) :: _) _ _; (refine wpList_store_blk (o := ⟨none, _, _, _, _, _⟩) hH8 (by rfl) _ _ _ (by rfl) (by rfl) (st8 Sha.init) (by rfl) size8m zero8_size (st8_size _) (st8_one _) ?_; intro w6 h6 hu6; have hz6 := hz5'.upd hu6 (by omega); have hbel6 := (hbel5.alloc (by omega) (.cells #[.int .u32 0, .int .u32 0, .int .u32 0, .int .u32 0, .int .u32 0, .int .u32 0, .int .u32 0, .int .u32 0] 156)).upd hu6 (by omega); have ho6 := (OwnB.alloc HO5.out (.cells #[.int .u32 0, .int .u32 0, .int .u32 0, .int .u32 0, .int .u32 0, .int .u32 0, .int .u32 0, .int .u32 0] 156)).upd hu6 (fun hk => by have := HG.out _ hk; omega); have hs6 := hu6.size; clear hu6 hH8 hz5' hbel5))
        | fail)
      refine (table_any _).mono ?_
      rintro e w7 ⟨rfl, hb7⟩
      have hH7 := (h6.below hb7 h6.lt).alloc (.cells zero64 158)
      have hz7 := (hz6.below hb7 hz6.lt).alloc (.cells zero64 158)
      have hbel7 := (hbel6.trans (hb7.mono hbel6.size)).alloc (by have := hbel6.size; have := hb7.size; omega) (.cells zero64 158)
      have ho7 := OwnB.alloc (OwnB.grown_ ho6 hb7) (.cells zero64 158)
      have HO7 := Lib.hid ho7
      have hK7 := Blk.new w7 158 zero64
      have hlt7 := (h6.below hb7 h6.lt).lt
      clear h6 hz6 hbel6 ho6 hb7 ho7 hs6
      generalize w5.heap.size = H at hlt5 hH7 hlt7 HG ⊢
      go_wp2_with (first
        | (show wpList _ _ _ ((⟨none, .store _ (.tmp 5) (.tmp 30), _, _, _, _⟩ : Oper) :: _) _ _; (refine wpList_store_blk (o := ⟨none, _, _, _, _, _⟩) hK7 (by rfl) _ _ _ (by rfl) (by rfl) karr (by rfl) size64 zero64_size karr_size karr_one ?_; intro w8 h8 hu8; have hI : SInv 156 w w8 H w7.heap.size Sha.init := ⟨hH7.upd hu8 (by omega), h8, hz7.upd hu8 (by omega), hlt5, hlt7, hbel7.upd hu8 (by omega)⟩; have ho8 := HO7.out.upd hu8 (fun hk => by have := HG.out _ hk; omega); clear hu8 hK7 hH7 hz7 hbel7))
        | fail)
      generalize w7.heap.size = K at hI hlt7 ⊢
      obtain ⟨A4, c4, hv4, _, _, hr4, _⟩ := OwnsC.reads ho8
      subst hv4
      have hne : ∀ ad, A4 = some ad → ad.block ≠ H := fun ad hd => by have := HG.out ad.block (by rw [hd]; rfl); omega
      have hr : Bytes w8 A4 (Sha.pad l) := hr4
      have hplen : (Sha.pad l).length ≤ 140737488351400 := by have := HZ.out; rw [Sha.pad_length]; omega
      have hpm := Sha.pad_mod l
      have HPM := Lib.hid hpm
      clear hr4 ho8 hpm
      go_loopw [6] (fun v wr => LoopRel w H K l A4 v wr) (fun v _ => (Sha.pad l).length - (intOf v).toNat)
      case atStart => exact ⟨0, by omega, rfl, hr, hI⟩
      case round =>
        clear hI hr
        obtain ⟨j, hj, rfl, hr, hI⟩ := hrel
        by_cases hlt : 64 * j < (Sha.pad l).length
        · have hpm := HPM.out
          have hge : 64 * j + 64 ≤ (Sha.pad l).length := by omega
          clear hpm
          obtain ⟨b, off, hA, hbl, hcell⟩ := hr.at_ (by omega)
          subst hA
          have HC := Lib.hid hcell
          have HR := Lib.hid hr
          have HP2 := Lib.hid hge
          clear hcell hr hge
          go_wp2_with (first
            | (show wpList _ _ _ ((⟨some 37, _, _, _, _, _⟩ : Oper) :: _) _ _; refine wpList_load_blk (o := ⟨some 37, _, _, _, _, _⟩) hI.hh (by rfl) _ _ (by rfl) (by rfl) _ Try.underlying156 (by rfl) size8m (st8_size _) ?_)
            | (show wpList _ _ _ ((⟨some 38, _, _, _, _, _⟩ : Oper) :: _) _ _; refine wpList_load_blk (o := ⟨some 38, _, _, _, _, _⟩) hI.kk (by rfl) _ _ (by rfl) (by rfl) _ Try.underlying158 (by rfl) size64 karr_size ?_)
            | fail)
          refine (rblock_any (Sha.blks (Sha.pad l) Sha.init j) b off _ c4 (Sha.pad l) (64 * j) rfl HP2.out (by omega) _ hbl HC.out).mono ?_
          rintro e w9 ⟨rfl, hb9⟩
          replace hI := hI.below hb9
          have hr9 := Bytes.below HR.out hb9
          have HR9 := Lib.hid hr9
          clear hr9 hb9
          go_wp2_with (show wpList _ _ _ ((⟨none, .store _ (.tmp 4) (.tmp 41), _, _, _, _⟩ : Oper) :: _) _ _; refine wpList_store_blk (o := ⟨none, _, _, _, _, _⟩) hI.hh (by rfl) _ _ _ (by rfl) (by rfl) (st8 (Sha.blk (Sha.blks (Sha.pad l) Sha.init j) (Sha.pad l) (64 * j))) (by rfl) size8m (st8_size _) (st8_size _) (st8_one _) ?_; intro w6 h6 hu6; have hI6 := hI.stored h6 hu6; have hr6 := HR9.out.upd hu6 hne; have HR6 := Lib.hid hr6; clear hr6 hu6 hI h6)
          go_roundw
          case rel => exact ⟨j + 1, by have := HP2.out; omega, by go_num, HR6.out, hI6⟩
          case measure => have := HP2.out; simp [intOf]; omega
        · have hpm := HPM.out
          have HS := Lib.hid (show j = (Sha.pad l).length / 64 by omega)
          have hjl : 64 * j = (Sha.pad l).length := by omega
          have HJ := Lib.hid hjl
          have ht : decide (64 * (j : Int) < ((Sha.pad l).length : Int)) = false := by simp; omega
          clear hpm hlt hr hjl
          obtain ⟨x, hx⟩ : ∃ x, x = Sha.blks (Sha.pad l) Sha.init j := ⟨_, rfl⟩
          rw [← hx] at hI
          have HX := Lib.hid (show Sha.sum l = Sha.out x by rw [hx, HS.out]; rfl)
          clear hx
          have hD : Blk (wr.alloc (.cells zero16 105)) wr.heap.size 105 (rarr x 0) := (Blk.new _ _ _).sub (rarr_zero x)
          have hKD := hI.kk.lt
          have hI2 := hI.alloc (.cells zero16 105)
          go_wp2
          generalize wr.heap.size = D at hD hKD ⊢
          go_loopw [8] (fun v wr => OutRel w H K D x v wr) (fun v _ => 16 - (intOf v).toNat)
          case atStart => exact ⟨0, by omega, rfl, hI2, hD⟩
          case round =>
            clear hI hI2 hD
            obtain ⟨i, hi, rfl, hI, hD⟩ := hrel
            by_cases hi4 : i < 16
            · obtain ⟨q, hq⟩ : ∃ q, q = i / 4 := ⟨_, rfl⟩
              obtain ⟨r, hr⟩ : ∃ r, r = i % 4 := ⟨_, rfl⟩
              have hq4 : q < 8 := by omega
              have hr4 : r < 4 := by omega
              have eq1 : (i : Int) / 4 = (q : Int) := by omega
              have er1 : (i : Int) % 4 = (r : Int) := by omega
              obtain ⟨y, hy⟩ : ∃ y, y = Sha.get x q := ⟨_, rfl⟩
              have cy := (hI.hh.cell q).trans (st8_get x q (by omega))
              rw [← hy] at cy
              have hb0 : iu32 y / 2 ^ (24 - 8 * r) % 256 = iu8 (Sha.byte y r) := byte_eq y r
              have ho : Sha.outAt x i = Sha.byte y r := by rw [hy, hq, hr]; rfl
              have HO := Lib.hid ho
              have d0 := (hD.cell i).trans (arr_at _ hi4)
              have f0 := hD.frozen i
              clear hy hq hr ho
              go_wp2
              go_roundw
              case rel =>
                have h1 := hD.set_ i (.int .u8 (iu8 (Sha.byte y r)))
                rw [← HO.out, rarr_set x i] at h1
                exact ⟨i + 1, by omega, by go_num, hI.off hKD _, by rw [← HO.out]; exact h1⟩
              case measure => simp [intOf]; omega
            · obtain rfl : i = 16 := by omega
              rw [rarr_all] at hD
              go_wp2_with (first
                | (show wpList _ _ _ ((⟨some 58, _, _, _, _, _⟩ : Oper) :: _) _ _; refine wpList_load_blk (o := ⟨some 58, _, _, _, _, _⟩) hD (by rfl) _ _ (by rfl) (by rfl) _ Try.underlying105 (by rfl) size16 (by simp [Sha.out]) ?_)
                | (show wpList _ _ _ ((⟨none, .store _ (.tmp 2) (.tmp 58), _, _, _, _⟩ : Oper) :: _) _ _; refine wpList_store_blk (o := ⟨none, _, _, _, _, _⟩) hI.rr (by rfl) _ _ _ (by rfl) (by rfl) ((Sha.out x).map u8v).toArray (by rfl) size16 (arr_size _ _) (by simp [Sha.out]) (u8_all _) ?_; intro w6 h6 hu6; have hbel := hI.bel.upd hu6 (Nat.le_refl _); clear hu6 hI hD))
              refine bodyPost_ret (results_cell_row (by rfl) _ _ _ _ _ _ _ (by rfl) h6 Try.underlying105 (by rfl) (size16.trans (by simp [Sha.out]))) rfl ⟨?_, hbel⟩
              rw [HX.out]
end Go.Proofs.Ytmhfehhpfkjloaa

/- What the functions of the layer of seals answer: the seal compared, bytes sealed, bytes opened; the program's and the document's. Conditions: the bytes can be read; they are at most 2^47 - 5000. -/
namespace Go
open Go.RowKit
theorem u8v_cell : Extern.Stop.cell = u8v := funext fun _ => rfl
theorem wpList_eql_bytes {P : Program} {w : World} {Q : Exit → Act → World → Prop} {ops : Array Oper} {rest : List Oper} {o : Oper} {a : Act} (hgd : o.guard = none) (t e r : TypeId) (x y : Operand) (ho : o.op = .binOp .eql t x y r) (n : Nat)
    (ht : P.underlying t = some (.array n e)) (he : P.underlying e = some (.int .u8)) (hsz : (P.info? e).map (·.size) = some 1) (hm : P.eqGuardType P.depth t = false)
    (l l' : List UInt8) (hx : a.eval x = .agg (l.map u8v).toArray) (hy : a.eval y = .agg (l'.map u8v).toArray) (hl : l.length = n) (hl' : l'.length = n)
    (h : wpList P ops Q rest (a.put o.dst (.bool (decide (l = l')))) w) : wpList P ops Q (o :: rest) a w := by
  refine wpList_run (.bool (decide (l = l'))) hgd ?_ h
  obtain ⟨i, hi, hs⟩ := Option.map_eq_some_iff.1 hsz
  have hsz' : ∀ w, (sizeOf e).run P w = .ok 1 w := fun w => by simp [sizeOf, typeInfo, hi, hs]
  have h1 := run_eql_bytes (P := P) w t e n ht he hsz' l l' hl hl'
  rw [u8v_cell] at h1
  have h2 : (l == l') = decide (l = l') := by by_cases h : l = l' <;> simp [h]
  rw [h2] at h1
  unfold execOp
  simp only [ho, hx, hy, Sem.run_bind, run_eqGuard_agg w .eql t x y _ _ hm, h1, Result.andThen_ok, Sem.run_pure]
/-- A load of a whole array out of the middle of a block. -/
theorem wpQuiet_load_mid {P : Program} {ops : Array Oper} {C : World → Prop} {Q : Act → Prop} {rest : List Oper} {o : Oper} {a : Act} {b off : Nat} {cs : List Value} (hb : ∀ w, C w → w.rangeAt b off cs) (hgd : o.guard = none) (ty : TypeId) (x : Operand) (ho : o.op = .load ty x)
    (hx : a.eval x = .pointer (some ⟨b, off, none⟩)) (d : TypeDesc) (hu : P.underlying ty = some d) (hd : d.isRow = true) {n : Nat} (hi : (P.info? ty).map (·.size) = some n) (hn : cs.length = n)
    (h : wpQuiet P ops C Q rest (a.put o.dst (.agg cs.toArray))) : wpQuiet P ops C Q (o :: rest) a := by
  refine wpQuiet_step fun K hK => ?_
  rw [if_pos (by simp [Region.wanted, hgd])]
  refine ⟨_, fun w hw => ?_, hK _ h⟩
  unfold Oper.quietAt execOp
  simp only [ho, hx, Instr.loadAt, Instr.sureAddr, Sem.run_bind, Sem.run_pure, Result.andThen_ok, run_loadVar_mid w b off ty cs d (hb w hw) hu hd (hn ▸ hi)]
  exact ⟨rfl, rfl⟩
theorem run_cut {P : Program} (w : World) (t e : TypeId) (ht : P.underlying t = some (.slice e)) (hsz : (P.info? e).map (·.size) = some 1) (A : Option Addr) (n c : Nat) (k : IntKind) (K : Nat) (hK : K ≤ n) :
    (Instr.sliceAt t (.slice A n c) (some (.int k (K : Int))) none none).run P w = .ok (.slice (if c = K then A else A.map (·.add K)) (n - K) (c - K)) w := by
  obtain ⟨i, hi, hs⟩ := Option.map_eq_some_iff.1 hsz
  have hsz' : (sizeOf e).run P w = .ok 1 w := by simp [sizeOf, typeInfo, hi, hs]
  have hb : (Instr.sliceBound (.int k (K : Int)) n .sliceB).run P w = .ok K w := by
    have := run_sliceBound (P := P) w k (K : Int) n .sliceB (by omega) (by omega)
    simpa using this
  simp [Instr.sliceAt, Instr.slice, run_underlying ht, Instr.sliceBounds, hb, hsz']
/-- s[k:] of bytes. -/
theorem wpList_cut_bytes {P : Program} {w : World} {Q : Exit → Act → World → Prop} {ops : Array Oper} {rest : List Oper} {o : Oper} {a : Act} (hgd : o.guard = none) (t : TypeId) (x lo : Operand) (ho : o.op = .slice t x (some lo) none none) (e : TypeId)
    (ht : P.underlying t = some (.slice e)) (hsz : (P.info? e).map (·.size) = some 1) (A : Option Addr) (n c : Nat) (k : IntKind) (K : Nat) (hx : a.eval x = .slice A n c) (hlo : a.eval lo = .int k (K : Int)) (l : List UInt8) (hn : n = l.length) (hK : K ≤ n) (hc : n ≤ c) (hb : Bytes w A l)
    (h : ∀ A', Bytes w A' (l.drop K) → (∀ ad, A' = some ad → ∃ ad0, A = some ad0 ∧ ad0.block = ad.block) → wpList P ops Q rest (a.put o.dst (.slice A' (l.drop K).length (c - K))) w) : wpList P ops Q (o :: rest) a w := by
  refine wpList_run (.slice (if c = K then A else A.map (·.add K)) (n - K) (c - K)) hgd (by unfold execOp; simp only [ho, hx, hlo, Option.map_some, Option.map_none, run_cut w t e ht hsz A n c k K hK, Sem.run_bind, Result.andThen_ok, Sem.run_pure]) ?_
  have hlen : n - K = (l.drop K).length := by rw [List.length_drop, hn]
  rw [hlen]
  refine h _ (hb.drop (by omega)) fun ad had => ?_
  split at had
  · exact ⟨ad, had, rfl⟩
  · cases A with
    | none => cases had
    | some ad0 => simp only [Option.map_some, Option.some.injEq] at had; exact ⟨ad0, rfl, by rw [← had]; unfold Addr.add; split <;> rfl⟩
/-- A slice as a pointer to an array. -/
theorem wpQuiet_array {P : Program} {ops : Array Oper} {C : World → Prop} {Q : Act → Prop} {rest : List Oper} {o : Oper} {a : Act} (hgd : o.guard = none) (t : TypeId) (x : Operand) (ho : o.op = .sliceToArrayPointer t x)
    (m : Nat) (e : TypeId) (hu : P.underlying t = some (.array m e)) (A : Option Addr) (n c : Nat) (hx : a.eval x = .slice A n c) (hmn : m ≤ n)
    (h : wpQuiet P ops C Q rest (a.put o.dst (.pointer A))) : wpQuiet P ops C Q (o :: rest) a := by
  refine wpQuiet_step fun K hK => ?_
  rw [if_pos (by simp [Region.wanted, hgd])]
  refine ⟨_, fun w hw => ?_, hK _ h⟩
  unfold Oper.quietAt execOp
  have hn : ¬ n < m := by omega
  simp only [ho, hx, Instr.arrayAt, Sem.run_bind, run_underlying hu, hn, if_false, Sem.run_pure, Result.andThen_ok]
  exact ⟨rfl, rfl⟩
theorem OwnB.made {e : TypeId} {w : World} {base g m : Nat} (h : Blk w g e ((List.replicate m 0).map u8v).toArray) (hb : base ≤ g) (hm : m ≤ 140737488400000 ∧ m ≤ maxLen) : OwnB e w base (.slice (some ⟨g, 0, none⟩) 0 m) [] (List.replicate m 0) :=
  .inr ⟨g, m, rfl, hb, by simpa using h, Nat.zero_le _, hm.2, rfl, by simp⟩
theorem OwnB.lit0 {e : TypeId} (w : World) {base : Nat} (hb : base ≤ w.heap.size) : OwnB e (w.alloc (.cells #[] e)) base (.slice (some ⟨w.heap.size, 0, none⟩) 0 0) [] [] := by
  have := OwnsC.lit (e := e) (size := 1) (base := base) w #[] 0 hb (by simp) (by simp)
  unfold OwnB; simpa using this
namespace Proofs.Ytmhfehhpfkjloaa
theorem nosel : Try.prog.eqGuardType Try.prog.depth 105 = false := by kernel_rfl
theorem Sha.sum_length (l : List UInt8) : (Sha.sum l).length = 16 := by simp [Sha.sum, Sha.out]
set_option maxHeartbeats 400000 in
theorem right_seal_any (A : Option Addr) (n c : Nat) (l s : List UInt8) (hn : n = l.length) (hc : l.length ≤ c) (hc2 : l.length ≤ 140737488351232 ∧ c ≤ 9223372036854775807) (hs : s.length = 16) (w : World) (hb : Bytes w A l) :
    Calls Try.prog 61 #[.slice A n c, .agg (s.map u8v).toArray] w fun e w' => e = .returned (.bool (decide (Sha.sum l = s))) ∧ Below w.heap.size w w' := by
  subst hn
  have hg : Blk (w.alloc (.cells (s.map u8v).toArray 105)) w.heap.size 105 (s.map u8v).toArray := Blk.new _ _ _
  have h0 : Below w.heap.size w (w.alloc (.cells (s.map u8v).toArray 105)) := (Below.refl _ _).alloc (Nat.le_refl _) _
  go_enter Try.func61, Try.ntmps61
  go_wp2_with fail
  generalize hw1 : w.alloc (.cells (s.map u8v).toArray 105) = w1 at hg h0 ⊢
  have hsz : w1.heap.size = w.heap.size + 1 := by rw [← hw1]; simp
  clear hw1
  have hs16 := Sha.sum_length l
  have hst : ∀ w', Below w1.heap.size w1 w' → Calls Try.prog 94 #[.slice A l.length c] w' fun e w'' => e = .returned (.agg ((Sha.sum l).map u8v).toArray) ∧ Below w1.heap.size w1 w'' := fun w' hw' =>
    (sum_any A c l hc hc2 w' (Bytes.below (Bytes.below hb h0) hw')).mono fun e w'' h => ⟨h.1, hw'.trans (h.2.mono hw'.size)⟩
  generalize hS : Sha.sum l = S at hst hs16
  refine wp_region_mix (Below w1.heap.size w1) [0] [1, 2] 3 [4] (by kernel_rfl) (by kernel_rfl) (fun c a a' w h q => ⟨h ▸ q.1, q.2⟩) (Below.refl _ _).drew ?_
  dsimp only [List.filterMap, List.getElem?_cons_zero, List.getElem?_cons_succ]
  repeat (go_big_quiet_step (fail))
  refine wpQuiet_nil ?_
  refine wpQuiet_call Try.call94 (by rfl) _ _ (by rfl) _ (by rfl) _ hst ?_
  simp only [Act.put, List.setIfInBounds_toArray, List.set_cons_zero, List.set_cons_succ]
  refine wpQuiet_load_blk (fun w' hw' => hg.below hw' hg.lt) (by rfl) _ _ (by rfl) (by rfl) _ Try.underlying105 (by rfl) size16 (by simp [hs]) ?_
  simp only [Act.put, List.setIfInBounds_toArray, List.set_cons_zero, List.set_cons_succ]
  refine wpQuiet_nil ?_
  intro w5 hw5
  go_wp2_with (show wpList _ _ _ ((⟨some 8, _, _, _, _, _⟩ : Oper) :: _) _ _; refine wpList_eql_bytes (o := ⟨some 8, _, _, _, _, _⟩) (by rfl) _ _ _ _ _ (by rfl) 16 Try.underlying105 Try.underlying5 size1 nosel S s (by rfl) (by rfl) hs16 hs ?_)
  go_ret
  exact ⟨by rw [hS]; rfl, h0.trans (hw5.mono (by omega))⟩
/-- The bytes, sealed. -/
def Sha.seal_ (l : List UInt8) : List UInt8 := Sha.sum l ++ l
/-- What the bytes are when they are opened: the error's number, and what is told. -/
def Sha.opened (l : List UInt8) : Int × List UInt8 := if l.length < 16 then (4, []) else if Sha.sum (l.drop 16) = l.take 16 then (0, l.drop 16) else (12, [])
end Proofs.Ytmhfehhpfkjloaa
end Go

/- The loose sectors of a disk: a map's entries against a plain function. Plain facts. No condition. -/
namespace Go
open Go.RowKit Go.MapKept
theorem mfind_shift (a : Int) : ∀ (es : List MapEntry) (i : Nat), mfind es a (i + 1) = (mfind es a i).map fun p => (p.1 + 1, p.2)
  | [], _ => rfl
  | e :: es, i => by
    unfold mfind
    split
    · rename_i b hb
      by_cases hab : a = b
      · rw [if_pos hab, if_pos hab]; rfl
      · rw [if_neg hab, if_neg hab]; exact mfind_shift a es (i + 1)
    · exact mfind_shift a es (i + 1)
theorem mfind_none (a : Int) : ∀ (es : List MapEntry) (i : Nat), mfind es a i = none → ∀ e ∈ es, e.key ≠ .int .i64 a
  | [], _, _, e, he => by cases he
  | x :: es, i, h, e, he => by
    unfold mfind at h
    split at h
    · rename_i b hb
      by_cases hab : a = b
      · rw [if_pos hab] at h; cases h
      · rw [if_neg hab] at h
        cases he with
        | head => rw [hb]; intro e; injection e with _ e; exact hab e.symm
        | tail _ he => exact mfind_none a es _ h e he
    · rename_i hn
      cases he with
      | head => exact fun hk => hn a hk
      | tail _ he => exact mfind_none a es _ h e he
/-- The elements of a map of sectors. -/
def SecVals (es : List MapEntry) : Prop := ∀ e ∈ es, ∃ l : List UInt8, l.length = 256 ∧ e.val = .agg (l.map u8v).toArray
theorem SecVals.put {es : Array MapEntry} {c : Nat} {a : Int} {l : List UInt8} (h : SecVals es.toList) (hl : l.length = 256) : SecVals (mput es c a (.agg (l.map u8v).toArray)).1.toList := by
  unfold mput
  split
  · intro e he
    rw [Array.toList_modify] at he
    obtain ⟨k, hk, rfl⟩ := List.getElem_of_mem he
    rw [List.getElem_modify]
    split
    · exact ⟨l, hl, rfl⟩
    · exact h _ (List.getElem_mem _)
  · intro e he
    rw [Array.toList_push, List.mem_append, List.mem_singleton] at he
    rcases he with he | rfl
    · exact h e he
    · exact ⟨l, hl, rfl⟩
theorem SecVals.get {es : Array MapEntry} (h : SecVals es.toList) (a : Int) : ∃ l : List UInt8, l.length = 256 ∧ (mget es a).getD (.agg ((List.replicate 256 (0 : UInt8)).map u8v).toArray) = .agg (l.map u8v).toArray := by
  unfold mget
  cases hm : mfind es.toList a 0 with
  | none => exact ⟨List.replicate 256 0, List.length_replicate .., rfl⟩
  | some p =>
    obtain ⟨i, v⟩ := p
    obtain ⟨_, e, h1, _, h3⟩ := mfind_lt a es.toList 0 i v hm
    obtain ⟨l, h4, h5⟩ := h e (List.mem_of_getElem? h1)
    exact ⟨l, h4, by rw [← h5, h3]; rfl⟩
/-- A sector's bytes. -/
def sec (L : List UInt8) (i : Nat) : List UInt8 := (L.drop (256 * i)).take 256
/-- A map's entries are a function's values. -/
structure OldIs (es : Array MapEntry) (c : Nat) (old : Nat → Option (List UInt8)) : Prop where
  stamped : Stamped es c
  ent : ∀ e ∈ es.toList, ∃ (k : Nat) (l : List UInt8), e.key = .int .i64 (k : Int) ∧ old k = some l ∧ l.length = 256 ∧ e.val = .agg (l.map u8v).toArray
  all : ∀ k l, old k = some l → ∃ e ∈ es.toList, e.key = .int .i64 (k : Int)
section
variable {es : Array MapEntry} {c : Nat} {old : Nat → Option (List UInt8)}
theorem OldIs.nil (c : Nat) : OldIs #[] c fun _ => none := ⟨stamped_empty c, fun e he => by simp at he, fun k l h => by cases h⟩
theorem OldIs.keys (h : OldIs es c old) : IntKeys es.toList := fun e he => by
  obtain ⟨k, l, h1, _⟩ := h.ent e he
  exact ⟨k, h1⟩
theorem OldIs.vals (h : OldIs es c old) : SecVals es.toList := fun e he => by
  obtain ⟨k, l, _, _, h1, h2⟩ := h.ent e he
  exact ⟨l, h1, h2⟩
theorem OldIs.get (h : OldIs es c old) (k : Nat) : mget es (k : Int) = (old k).map fun l => .agg (l.map u8v).toArray := by
  unfold mget
  cases hm : mfind es.toList (k : Int) 0 with
  | none =>
    cases ho : old k with
    | none => rfl
    | some l =>
      obtain ⟨e, he, hk⟩ := h.all k l ho
      exact absurd hk (mfind_none _ _ _ hm e he)
  | some p =>
    obtain ⟨i, v⟩ := p
    obtain ⟨_, e, h1, h2, h3⟩ := mfind_lt _ es.toList 0 i v hm
    obtain ⟨k', l, h4, h5, _, h6⟩ := h.ent e (List.mem_of_getElem? h1)
    rw [h2] at h4
    injection h4 with _ h4
    obtain rfl : k = k' := by omega
    rw [h5, ← h3, h6]
    rfl
theorem OldIs.len (h : OldIs es c old) {k : Nat} {l : List UInt8} (hk : old k = some l) : l.length = 256 := by
  obtain ⟨e, he, h1⟩ := h.all k l hk
  obtain ⟨k', l', h2, h3, h4, _⟩ := h.ent e he
  rw [h1] at h2
  injection h2 with _ h2
  obtain rfl : k = k' := by omega
  rw [hk] at h3
  injection h3 with h3
  rw [h3, h4]
/-- One more. -/
def oldUp (old : Nat → Option (List UInt8)) (k : Nat) (l : List UInt8) : Nat → Option (List UInt8) := fun j => if j = k then some l else old j
theorem OldIs.put (h : OldIs es c old) {k : Nat} {l : List UInt8} (hk : old k = none) (hl : l.length = 256) :
    OldIs (mput es c (k : Int) (.agg (l.map u8v).toArray)).1 (mput es c (k : Int) (.agg (l.map u8v).toArray)).2 (oldUp old k l) := by
  have hm : mfind es.toList (k : Int) 0 = none := by
    have h1 := h.get k
    rw [hk] at h1
    unfold mget at h1
    cases hm : mfind es.toList (k : Int) 0 with
    | none => rfl
    | some p => rw [hm] at h1; cases h1
  have hno := mfind_none _ _ _ hm
  unfold mput
  rw [hm]
  refine ⟨stamped_push h.stamped hno, fun e he => ?_, fun j m hj => ?_⟩
  · rw [Array.toList_push, List.mem_append, List.mem_singleton] at he
    rcases he with he | rfl
    · obtain ⟨k', l', h1, h2, h3⟩ := h.ent e he
      refine ⟨k', l', h1, ?_, h3⟩
      unfold oldUp
      rw [if_neg (fun e1 => by rw [e1, hk] at h2; cases h2)]
      exact h2
    · exact ⟨k, l, rfl, by unfold oldUp; rw [if_pos rfl], hl, rfl⟩
  · rw [Array.toList_push]
    unfold oldUp at hj
    by_cases hjk : j = k
    · exact ⟨_, List.mem_append_right _ (List.mem_singleton.2 rfl), by rw [hjk]⟩
    · rw [if_neg hjk] at hj
      obtain ⟨e, he, h1⟩ := h.all j m hj
      exact ⟨e, List.mem_append_left _ he, h1⟩
/-- What is loose when n sectors from at on were written over the bytes L. -/
def oldW (old : Nat → Option (List UInt8)) (L : List UInt8) (at_ n : Nat) : Nat → Option (List UInt8) := fun k => if at_ ≤ k ∧ k < at_ + n then some ((old k).getD (sec L k)) else old k
theorem oldW_zero (L : List UInt8) (at_ : Nat) : oldW old L at_ 0 = old := by
  funext k; unfold oldW; rw [if_neg (by omega)]
theorem oldW_at {L : List UInt8} {at_ n : Nat} : oldW old L at_ n (at_ + n) = old (at_ + n) := by unfold oldW; rw [if_neg (by omega)]
theorem oldW_has {L : List UInt8} {at_ n : Nat} {l : List UInt8} (h : old (at_ + n) = some l) : oldW old L at_ (n + 1) = oldW old L at_ n := by
  funext k
  unfold oldW
  by_cases hk : k = at_ + n
  · subst hk; rw [if_pos (by omega), if_neg (by omega), h]; rfl
  · by_cases h1 : at_ ≤ k ∧ k < at_ + n
    · rw [if_pos h1, if_pos (by omega)]
    · rw [if_neg h1, if_neg (by omega)]
theorem oldW_new {L : List UInt8} {at_ n : Nat} (h : old (at_ + n) = none) : oldUp (oldW old L at_ n) (at_ + n) (sec L (at_ + n)) = oldW old L at_ (n + 1) := by
  funext k
  unfold oldUp oldW
  by_cases hk : k = at_ + n
  · subst hk; rw [if_pos rfl, if_pos (by omega), h]; rfl
  · rw [if_neg hk]
    by_cases h1 : at_ ≤ k ∧ k < at_ + n
    · rw [if_pos h1, if_pos (by omega)]
    · rw [if_neg h1, if_neg (by omega)]
theorem sec_wr_behind {L b : List UInt8} {at_ i : Nat} (h : 256 * at_ ≤ L.length) (hb : 256 * i ≤ b.length) : sec (wr L (256 * at_) (b.take (256 * i))) (at_ + i) = sec L (at_ + i) := by
  unfold sec
  have e : 256 * (at_ + i) = 256 * at_ + (b.take (256 * i)).length + 0 := by rw [List.length_take]; omega
  rw [e, wr_drop h]
end
end Go

/- A region that draws its order, by a plan that branches: some operations are taken first wherever they may come, of the others each that may come next is followed. Plain facts over any program. No condition. -/
namespace Go
/-- The plan: take i first; or one of several may come (opt i r more: i, then r; or one of more; no: none else). -/
inductive PlanT where
  | done
  | take (i : Nat) (r : PlanT)
  | opt (i : Nat) (r more : PlanT)
  | no
def PlanT.heads : PlanT → List Nat
  | .opt i _ m => i :: m.heads
  | _ => []
def Region.treeB (md : Region.Mode) (ops : Array Oper) (Z : List Nat) : PlanT → Bool → Nat → Array Bool → Bool
  | .done, _, n, s => decide (n = 0) && (Region.ready md ops s).isEmpty
  | .take i r, _, n, s => match n with
    | 0 => false
    | n + 1 => (Region.ready md ops s).contains i && Region.free md ops s i && (Z.all fun z => Region.waitsFor md ops z i) && Region.treeB md ops Z r true n (s.setIfInBounds i true)
  | .opt i r m, first, n, s => match n with
    | 0 => false
    | n + 1 => (!first || decide (Region.ready md ops s = i :: m.heads)) && Region.treeB md ops Z r true n (s.setIfInBounds i true) && Region.treeB md ops Z m false (n + 1) s
  | .no, first, _, _ => !first
def Region.treeZ (Z : List Nat) : PlanT → Bool → Bool
  | .done, _ => true
  | .take _ r, c => c && Region.treeZ Z r c
  | .opt i r m, c => Region.treeZ Z r (c && !Z.contains i) && Region.treeZ Z m c
  | .no, _ => true
section
variable {P : Program} {ops : Array Oper} {md : Region.Mode} {C : World → Prop} {Z : List Nat} {Q : Exit → Act → World → Prop}
def wpTree (P : Program) (ops : Array Oper) (C : World → Prop) (Z : List Nat) (Q : Exit → Act → World → Prop) : PlanT → Act → World → Prop
  | .done, a, w => Q .normal a w
  | .take i r, a, w => match ops[i]? with
    | some o => ∃ v, YieldsC P ops C o v a ∧ (C w → wpTree P ops C Z Q r (a.put o.dst v) w)
    | none => False
  | .opt i r m, a, w => wpOp P ops Q i (fun a' w' => (i ∈ Z ∨ C w') ∧ wpTree P ops C Z Q r a' w') a w ∧ wpTree P ops C Z Q m a w
  | .no, _, _ => True
theorem anyC_of_tree (hns : Region.noSelect ops = true) (hQ : ∀ c a a' w, a'.defers = a.defers → Q (.panic c) a' w → Q (.panic c) a w) :
    ∀ (t : PlanT) (c : Bool) (n : Nat) (s : Array Bool) (a : Act) (w : World), Region.treeZ Z t c = true → (c = true → C w) → wpTree P ops C Z Q t a w →
      (Region.treeB md ops Z t true n s = true → wpAnyC P md ops C Z Q n s a w) ∧
      (∀ m, n = m + 1 → Region.treeB md ops Z t false n s = true → ∀ i ∈ t.heads, wpOp P ops Q i (fun a' w' => (i ∈ Z ∨ C w') ∧ wpAnyC P md ops C Z Q m (s.setIfInBounds i true) a' w') a w) := by
  intro t
  induction t with
  | done =>
    intro c n s a w _ _ h
    refine ⟨fun hB => ?_, fun m _ _ i hi => by cases hi⟩
    simp only [Region.treeB, Bool.and_eq_true, decide_eq_true_eq] at hB
    obtain ⟨rfl, hB⟩ := hB
    exact ⟨by simpa using hB, h⟩
  | no =>
    intro c n s a w _ _ _
    exact ⟨fun hB => by simp [Region.treeB] at hB, fun m _ _ i hi => by cases hi⟩
  | take i r ih =>
    intro c n s a w hz hC h
    refine ⟨fun hB => ?_, fun m _ _ i hi => by cases hi⟩
    cases n with
    | zero => simp [Region.treeB] at hB
    | succ n =>
      simp only [Region.treeB, Bool.and_eq_true] at hB
      simp only [Region.treeZ, Bool.and_eq_true] at hz
      obtain ⟨⟨⟨h1, h2⟩, h3⟩, h4⟩ := hB
      have hr : i ∈ Region.ready md ops s := by simpa using h1
      obtain ⟨_, oi, hoi, _⟩ := mem_ready.1 hr
      simp only [wpTree, hoi] at h
      obtain ⟨v, hy, hn⟩ := h
      exact wpAnyC_first hoi hns hQ (fun z hz => List.all_eq_true.1 h3 z hz) n s a w (Region.free_spec hoi h2) hr hy (hC hz.1) ((ih c n _ _ _ hz.2 hC (hn (hC hz.1))).1 h4)
  | opt i r m ihr ihm =>
    intro c n s a w hz hC h
    simp only [Region.treeZ, Bool.and_eq_true] at hz
    obtain ⟨h1, h2⟩ := h
    have key : ∀ k first, n = k + 1 → Region.treeB md ops Z (.opt i r m) first n s = true → ∀ j ∈ (PlanT.opt i r m).heads, wpOp P ops Q j (fun a' w' => (j ∈ Z ∨ C w') ∧ wpAnyC P md ops C Z Q k (s.setIfInBounds j true) a' w') a w := by
      intro k first hn hB j hj
      subst hn
      simp only [Region.treeB, Bool.and_eq_true] at hB
      obtain ⟨⟨_, hr⟩, hm⟩ := hB
      simp only [PlanT.heads, List.mem_cons] at hj
      rcases hj with rfl | hj
      · refine wpOp_mono (fun a' w' h' => ⟨h'.1, (ihr (c && !Z.contains j) k _ a' w' hz.1 (fun hc => ?_) h'.2).1 hr⟩) h1
        simp only [Bool.and_eq_true, Bool.not_eq_true'] at hc
        refine h'.1.resolve_left fun hmm => ?_
        rw [List.contains_iff_mem.2 hmm] at hc
        cases hc.2
      · exact (ihm c (k + 1) s a w hz.2 hC h2).2 k rfl hm j hj
    refine ⟨fun hB => ?_, fun k hk hB => key k false hk hB⟩
    cases n with
    | zero => simp [Region.treeB] at hB
    | succ n =>
      have hk := key n true rfl hB
      simp only [Region.treeB, Bool.and_eq_true, Bool.not_true, Bool.false_or, decide_eq_true_eq] at hB
      refine ⟨fun h0 => (by rw [hB.1.1] at h0; cases h0), fun j hj => ?_⟩
      rw [hB.1.1] at hj
      exact hk j hj
/-- **THE REGION, BY A PLAN THAT BRANCHES.** -/
theorem wp_region_tree {id : Nat} {a : Act} {w : World} {l : List Oper} {Q : Exit → Act → World → Prop} (C : World → Prop) (Z : List Nat) (t : PlanT) (hm : P.follows .mixedOrders = true)
    (hB : (Region.noSelect l.toArray && Region.treeB .any l.toArray Z t true l.toArray.size (Array.replicate l.toArray.size false) && Region.treeZ Z t true) = true)
    (hC : C w.drew) (h : wpTree P l.toArray C Z (tidy Q) t a w.drew) : (Code.region id l.toArray true).wp P Q a w := by
  simp only [Bool.and_eq_true] at hB
  refine wp_mono (Q := tidy Q) ?_ (tidy_le Q)
  refine wp_region_any hm ?_
  exact wpAny_of_C _ _ _ _ ((anyC_of_tree hB.1.1 (fun _ _ _ _ _ q => q.elim) t true _ _ a w.drew hB.2 (fun _ => hC) h).1 hB.1.2)
theorem wpIn_region_tree {F : Fence} {n : Nat} {id : Nat} {a : Act} {w : World} {l : List Oper} {Q : Exit → Act → World → Prop} (C : World → Prop) (Z : List Nat) (t : PlanT) (hm : P.follows .mixedOrders = true)
    (hB : (Region.noSelect l.toArray && Region.treeB .any l.toArray Z t true l.toArray.size (Array.replicate l.toArray.size false) && Region.treeZ Z t true) = true)
    (hc : (l.toArray.all fun o => o.op.calmB) = true)
    (hC : C w.drew) (h : wpTree P l.toArray C Z (tidy Q) t a w.drew) : (Code.region id l.toArray true).wpIn F n P Q a w := by
  simp only [Bool.and_eq_true] at hB
  refine wpIn_mono (wpIn_region_any (Q := tidy Q) hm (anyIn_of_any hc _ _ _ _ ?_)) (tidy_le Q)
  rw [strict_tidy]
  exact wpAny_of_C _ _ _ _ ((anyC_of_tree hB.1.1 (fun _ _ _ _ _ q => q.elim) t true _ _ a w.drew hB.2 (fun _ => hC) h).1 hB.1.2)
def PlanT.takes : List Nat → PlanT → PlanT
  | [], r => r
  | i :: is, r => .take i (PlanT.takes is r)
theorem wpTree_take {w : World} (is : List Nat) (r : PlanT) : ∀ (a : Act), ((is.filterMap fun i => ops[i]?).all fun o => o.op.stillB) = true → (is.all fun i => decide (i < ops.size)) = true →
    C w → wpQuiet P ops C (fun a' => wpTree P ops C Z Q r a' w) (is.filterMap fun i => ops[i]?) a → wpTree P ops C Z Q (PlanT.takes is r) a w := by
  induction is with
  | nil => intro a _ _ _ h; exact h
  | cons i is ih =>
    intro a hs hlt hC h
    simp only [List.all_cons, Bool.and_eq_true, decide_eq_true_eq] at hlt
    have hi : ops[i]? = some ops[i] := Array.getElem?_eq_getElem hlt.1
    simp only [List.filterMap_cons, hi, List.all_cons, Bool.and_eq_true] at hs h
    have hq : qOp P ops C i (wpQuiet P ops C (fun a' => wpTree P ops C Z Q r a' w) (is.filterMap fun i => ops[i]?)) a := by unfold qOp; simp only [hi]; exact h
    obtain ⟨v, hy, hK⟩ := yieldsIn_of_qOp hi hq
    simp only [PlanT.takes, wpTree, hi]
    exact ⟨v, yieldsC_of hs.1 hy, fun _ => ih _ hs.2 hlt.2 hC hK⟩
/-- Operations that are taken first, read in a class of worlds. -/
theorem wpTree_takeL {l : List Oper} {w : World} (is : List Nat) (r : PlanT) (a : Act) (hs : ((is.filterMap fun i => l[i]?).all fun o => o.op.stillB) = true) (hlt : (is.all fun i => decide (i < l.length)) = true)
    (hC : C w) (h : wpQuiet P l.toArray C (fun a' => wpTree P l.toArray C Z Q r a' w) (is.filterMap fun i => l[i]?) a) : wpTree P l.toArray C Z Q (PlanT.takes is r) a w := by
  have e : (is.filterMap fun i => l.toArray[i]?) = is.filterMap fun i => l[i]? := by congr 1; funext i; exact List.getElem?_toArray ..
  exact wpTree_take is r a (by rw [e]; exact hs) (by simpa using hlt) hC (by rw [e]; exact h)
theorem wpTree_pure {l : List Oper} {w : World} (is : List Nat) (r : PlanT) : ∀ (a : Act), ((is.filterMap fun i => l[i]?).all fun o => o.op.stillB) = true → (is.all fun i => decide (i < l.length)) = true →
    wpQuiet P l.toArray (fun _ => True) (fun a' => wpTree P l.toArray C Z Q r a' w) (is.filterMap fun i => l[i]?) a → wpTree P l.toArray C Z Q (PlanT.takes is r) a w := by
  induction is with
  | nil => intro a _ _ h; exact h
  | cons i is ih =>
    intro a hs hlt h
    simp only [List.all_cons, Bool.and_eq_true, decide_eq_true_eq] at hlt
    have hi : l[i]? = some l[i] := List.getElem?_eq_getElem hlt.1
    have hi' : l.toArray[i]? = some l[i] := by rw [List.getElem?_toArray]; exact hi
    simp only [List.filterMap_cons, hi, List.all_cons, Bool.and_eq_true] at hs h
    have hq : qOp P l.toArray (fun _ => True) i (wpQuiet P l.toArray (fun _ => True) (fun a' => wpTree P l.toArray C Z Q r a' w) (is.filterMap fun i => l[i]?)) a := by unfold qOp; simp only [hi']; exact h
    obtain ⟨v, hy, hK⟩ := yieldsIn_of_qOp hi' hq
    have hy' := yieldsC_of hs.1 hy
    simp only [PlanT.takes, wpTree, hi']
    refine ⟨v, ?_, fun _ => ih _ hs.2 hlt.2 hK⟩
    rcases hy' with ⟨h1, h2⟩ | h1
    · exact .inl ⟨h1, fun w _ => h2 w trivial⟩
    · exact .inr h1
/-- What is asked behind an operation that came. -/
def TreeQ (P : Program) (ops : Array Oper) (C : World → Prop) (Z : List Nat) (Q : Exit → Act → World → Prop) (i : Nat) (r : PlanT) : Exit → Act → World → Prop
  | .normal, a, w => (i ∈ Z ∨ C w) ∧ wpTree P ops C Z Q r a w
  | e, a, w => Q e a w
theorem wpTree_opt {l : List Oper} {a : Act} {w : World} {i : Nat} {r m : PlanT} (o : Oper) (ho : l[i]? = some o) (h : wpList P l.toArray (TreeQ P l.toArray C Z Q i r) [o] a w) (hm : wpTree P l.toArray C Z Q m a w) : wpTree P l.toArray C Z Q (.opt i r m) a w := by
  refine ⟨?_, hm⟩
  have ho' : l.toArray[i]? = some o := by rw [List.getElem?_toArray]; exact ho
  unfold wpOp
  simp only [ho']
  unfold wpList at h
  have hmono : ∀ {a : Act} {w : World}, o.wp P a w (wpList P l.toArray (TreeQ P l.toArray C Z Q i r) []) (TreeQ P l.toArray C Z Q i r) → o.wp P a w (fun a' w' => (i ∈ Z ∨ C w') ∧ wpTree P l.toArray C Z Q r a' w') Q := by
    intro a w h
    unfold Oper.wp at h ⊢
    generalize (execOp a.eval o).run P w = rr at *
    cases rr with
    | ok n w' =>
      cases n <;> simp only [Oper.upon] at h ⊢
      case value u => exact h
      case skip => exact h
      case defer d => exact h
      case enter f args =>
        refine Calls.mono h fun e w'' he => ?_
        cases e <;> exact he
      case row row args => exact Rows.mono h fun u w'' he => he
    | halt x w' => cases x <;> simp only [Oper.upon] at h ⊢; exact h
  split
  · rename_i hw
    rw [if_pos hw] at h
    rcases h with h | ⟨h1, h2⟩
    · exact .inl (hmono h)
    · exact .inr ⟨h1, h2⟩
  · rename_i hw
    rw [if_neg hw] at h
    exact h
/-- The only one that may come. -/
theorem wpTree_one {l : List Oper} {a : Act} {w : World} {i : Nat} {r : PlanT} (o : Oper) (ho : l[i]? = some o) (h : wpList P l.toArray (TreeQ P l.toArray C Z Q i r) [o] a w) : wpTree P l.toArray C Z Q (.opt i r .no) a w :=
  wpTree_opt o ho h trivial
theorem wpTree_done {a : Act} {w : World} (h : Q .normal a w) : wpTree P ops C Z (tidy Q) .done a w := h
theorem TreeQ.in_ {a : Act} {w : World} {i : Nat} {r : PlanT} (hC : C w) (h : wpTree P ops C Z Q r a w) : TreeQ P ops C Z Q i r .normal a w := ⟨.inr hC, h⟩
theorem TreeQ.out {a : Act} {w : World} {i : Nat} {r : PlanT} (hz : Z.contains i = true) (h : wpTree P ops C Z Q r a w) : TreeQ P ops C Z Q i r .normal a w := ⟨.inl (by simpa using hz), h⟩
/-- What branches share: the rest is shown once. (By 'apply': G is found in the first branch.) -/
theorem share {α : Type} {F G : α → World → Prop} {goal : Prop} (main : (∀ x w, F x w → G x w) → goal) (tail : ∀ x w, F x w → G x w) : goal := main tail
end
end Go
