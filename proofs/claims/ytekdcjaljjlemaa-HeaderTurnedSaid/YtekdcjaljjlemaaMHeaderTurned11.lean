/- A header's bytes behind its seal, the document's. Conditions: the numbers of four bytes are from 0 on and below 2^32, the others below 2^64. -/
import Derived.Test.YtekdcjaljjlemaaMHeaderTurned10
namespace Go.Proofs.Ytekdcjaljjlemaa
open Go.RowKit
def nine : List Nat := [0, 1, 2, 3, 4, 5, 6, 7, 8]
theorem nine_snoc (i : Nat) (h : i < 9) : nine.take (i + 1) = nine.take i ++ [i] := by
  have : i = 0 ∨ i = 1 ∨ i = 2 ∨ i = 3 ∨ i = 4 ∨ i = 5 ∨ i = 6 ∨ i = 7 ∨ i = 8 := by omega
  rcases this with rfl | rfl | rfl | rfl | rfl | rfl | rfl | rfl | rfl <;> rfl
def nines (f : HdF) : Array Value := #[.int .i64 (f 0), .int .i64 (f 1), .int .i64 (f 2), .int .i64 (f 3), .int .i64 (f 4), .int .i64 (f 5), .int .i64 (f 6), .int .i64 (f 7), .int .i64 (f 8)]
theorem nines_at (f : HdF) (i : Nat) (h : i < 9) : (nines f)[i]? = some (.int .i64 (f i)) := by
  have : i = 0 ∨ i = 1 ∨ i = 2 ∨ i = 3 ∨ i = 4 ∨ i = 5 ∨ i = 6 ∨ i = 7 ∨ i = 8 := by omega
  rcases this with rfl | rfl | rfl | rfl | rfl | rfl | rfl | rfl | rfl <;> rfl
def NineRel (w2 : World) (f : HdF) (s : List UInt8) (gl : Nat) (v5 v7 : Value) (wr : World) : Prop :=
  ∃ (i : Nat) (sp : List UInt8), i ≤ 9 ∧ v7 = .int .i64 (i : Int) ∧ OwnB 5 wr w2.heap.size v5 (s ++ four_ f (nine.take i)) sp ∧ Below w2.heap.size w2 wr ∧ Blk wr gl 3 (nines f) ∧ v5.ownBlock ≠ some gl
set_option maxRecDepth 100000 in
set_option maxHeartbeats 4000000 in
theorem rhbehind_any (f : HdF) (s : List UInt8) (hs : s.length = 16) (hf : Hd.nat f) (hin : Hd.in_ f) (w : World) :
    Calls Try.prog 27 #[.agg (hdc f), .agg (s.map u8v).toArray] w fun e w' => ∃ v sp, e = .returned v ∧ OwnB 5 w' w.heap.size v (Hd.rest f s) sp ∧ Below w.heap.size w w' := by
  have hb0 := (Blk.new w 26 (hdc f)).alloc (.cells (s.map u8v).toArray 57)
  have hb1 := Blk.new' (w.alloc (.cells (hdc f) 26)) 57 (s.map u8v).toArray (n := w.heap.size + 1) (by simp)
  have hB := Lib.hid (((Below.refl w.heap.size w).alloc (Nat.le_refl _) (.cells (hdc f) 26)).alloc (by simp) (.cells (s.map u8v).toArray 57))
  have HF := Lib.hid hf
  have HIN := Lib.hid hin
  have HS := Lib.hid hs
  clear hf hin hs
  go_enter Try.func27, Try.ntmps27
  go_wp2_with (first
    | (show wpList _ _ _ ((⟨some 11, _, _, _, _, _⟩ : Oper) :: _) _ _; go_must (generalize hw2 : (w.alloc (.cells (hdc f) 26)).alloc (.cells (s.map u8v).toArray 57) = w2 at hb0 hb1 hB ⊢); go_must (have hsz2 : w2.heap.size = w.heap.size + 1 + 1 := by simp [← hw2]); go_must (clear hw2); go_must (rw [← hsz2]); go_must (generalize hs0 : w.heap.size = s0 at hb0 hb1 hB hsz2 ⊢); go_must (have ho3 := OwnB.lit0 (e := 5) w2 (Nat.le_refl _)); go_must (have hS3 := (hb1.alloc (.cells #[] 5)).bytes); go_must (have hB3 : Below w2.heap.size w2 (w2.alloc (.cells #[] 5)) := (Below.refl _ _).alloc (Nat.le_refl _) _); go_must (refine wpList_append_bytes (o := ⟨some 11, _, _, _, _, _⟩) (by rfl) _ _ _ (by rfl) w2.heap.size _ Try.underlying27 u8info (.slice (some ⟨w2.heap.size, 0, none⟩) 0 0) [] [] (by rfl) ho3 (some ⟨s0 + 1, 0, none⟩) 16 s (by rw [HS.out]; rfl) hS3 (by rw [HS.out, List.length_nil]; omega) hB3.size ?_); go_must (intro v4 w4 sp4 ho4 hg4 _ _); go_must (have hB4 := hB3.grown hg4 hB3.size (fun k hk => (OwnsC.lt ho3 k hk).1)); go_must (rw [List.nil_append] at ho4); go_must (clear ho3 hS3 hB3 hg4); go_must (have hbx := hb0.below hB4 hb0.lt); go_must (have c0 := hbx.at_ 0 (hdc_at f 0 (by omega) (by omega) (by omega) (by omega))); go_must (have c1 := hbx.at_ 1 (hdc_at f 1 (by omega) (by omega) (by omega) (by omega))); go_must (have c2 := hbx.at_ 2 (hdc_at f 2 (by omega) (by omega) (by omega) (by omega))); go_must (have c3 := hbx.at_ 3 (hdc_at f 3 (by omega) (by omega) (by omega) (by omega))); go_must (have c4 := hbx.at_ 4 (hdc_at f 4 (by omega) (by omega) (by omega) (by omega))); go_must (have c5 := hbx.at_ 5 (hdc_at f 5 (by omega) (by omega) (by omega) (by omega))); go_must (have c6 := hbx.at_ 6 (hdc_at f 6 (by omega) (by omega) (by omega) (by omega))); go_must (have c7 := hbx.at_ 7 (hdc_at f 7 (by omega) (by omega) (by omega) (by omega))); go_must (have c8 := hbx.at_ 8 (hdc_at f 8 (by omega) (by omega) (by omega) (by omega))); go_must (have HL := Lib.hid (And.intro ho4 (And.intro hB4 hsz2))); go_must (clear ho4 hB4 hbx hsz2))
    | fail)
  clear c0 c1 c2 c3 c4 c5 c6 c7 c8
  have hgl : w4.heap.size = w4.heap.size := rfl
  have HST : Hid (NineRel w2 f s w4.heap.size v4 (.int .i64 0) (w4.alloc (.cells (nines f) 3))) := Lib.hid (by
    obtain ⟨ho4, hB4, hsz2⟩ := HL.out
    refine ⟨0, sp4, by omega, rfl, ?_, hB4.alloc hB4.size _, Blk.new _ _ _, fun e => by have := (OwnsC.lt ho4 _ e).2; omega⟩
    rw [show s ++ four_ f (nine.take 0) = s by simp [four_]]
    exact ho4.alloc _)
  have hge := HL.out.2.1.size
  have HSZ := Lib.hid HL.out.2.2
  clear HL hgl
  rw [show (#[.int .i64 (f 0), .int .i64 (f 1), .int .i64 (f 2), .int .i64 (f 3), .int .i64 (f 4), .int .i64 (f 5), .int .i64 (f 6), .int .i64 (f 7), .int .i64 (f 8)] : Array Value) = nines f from rfl]
  generalize w4.alloc (.cells (nines f) 3) = w5 at HST ⊢
  generalize w4.heap.size = gl at HST hge ⊢
  go_loopw [5, 7] (fun v5 v7 wr => NineRel w2 f s gl v5 v7 wr) (fun _ v _ => 9 - (intOf v).toNat)
  case atStart => exact HST.out
  case round =>
    clear HST
    obtain ⟨i, sp, hi9, rfl, hown, hBr, hgb, hne⟩ := hrel
    have hsz := hBr.size
    by_cases hlt : i < 9
    · obtain ⟨N, hN⟩ : ∃ N : Nat, f i = (N : Int) := ⟨(f i).toNat, by have := (HF.out i (by simp [thirteen]; omega)).1; omega⟩
      have hN2 : N < 4294967296 := by have := (HF.out i (by simp [thirteen]; omega)).2; omega
      have d0 : wr.cell? ⟨gl, i, none⟩ = some (.int .i64 (N : Int)) := by rw [hgb.at_ i (nines_at f i hlt), hN]
      have HN := Lib.hid hN
      have hl : (s ++ four_ f (nine.take i)).length ≤ 100000 := by rw [List.length_append, four_length, List.length_take, HS.out]; have := Nat.min_le_left i nine.length; omega
      have HU : Hid ((s ++ four_ f (nine.take i)) ++ leb N 4 = s ++ four_ f (nine.take (i + 1))) := Lib.hid (by rw [nine_snoc i hlt, four_snoc, HN.out, leb_4 N hN2, Int.toNat_natCast, List.append_assoc])
      clear hN
      go_wp2_with fail
      refine (rput4_any w2.heap.size _ _ sp N 4 (by omega) hl wr hsz hown).mono ?_
      rintro e w6 ⟨v6, sp6, rfl, ho6, hg6, hw6⟩
      have hB6 := hBr.grown hg6 hsz (fun k hk => (OwnsC.lt hown k hk).1)
      have hgb6 : Blk w6 gl 3 (nines f) := (hg6.block _ hgb.lt (fun e => hne e.symm)).trans hgb
      have hne6 : v6.ownBlock ≠ some gl := by
        rcases hw6 with e | ⟨k, e, hk⟩
        · rw [e]; exact hne
        · rw [e]; intro e2; injection e2 with e2; have := hgb.lt; omega
      rw [HU.out] at ho6
      clear d0 hown hBr hgb hne hg6 hw6 hl
      go_wp2
      go_roundw
      case rel => exact ⟨i + 1, sp6, by omega, by go_num, ho6, hB6, hgb6, hne6⟩
      case measure => simp [intOf]; omega
    · obtain rfl : i = 9 := by omega
      clear hgb hne
      rw [show nine.take 9 = [0, 1, 2, 3, 4, 5, 6, 7, 8] from rfl] at hown
      obtain ⟨hi, hhi⟩ : ∃ n : Nat, f 9 = (n : Int) := ⟨(f 9).toNat, by have := HIN.out.1; omega⟩
      obtain ⟨lo, hlo⟩ : ∃ n : Nat, f 10 = (n : Int) := ⟨(f 10).toNat, by have := HIN.out.2.2.1; omega⟩
      obtain ⟨T, hT⟩ : ∃ n : Nat, f 13 = (n : Int) := ⟨(f 13).toNat, by have := HIN.out.2.2.2.2.1; omega⟩
      have hT2 : T < 18446744073709551616 := by have := HIN.out.2.2.2.2.2; omega
      have hbx := hb0.below hBr hb0.lt
      have d9 : wr.cell? ⟨s0, 9, none⟩ = some (.int .u64 (hi : Nat)) := (hbx.at_ 9 (hdc_u f 9 (by omega))).trans (by rw [hhi])
      have d10 : wr.cell? ⟨s0, 9 + 1, none⟩ = some (.int .u64 (lo : Nat)) := (hbx.at_ 10 (hdc_u f 10 (by omega))).trans (by rw [hlo])
      have HN := Lib.hid (And.intro hhi (And.intro hlo hT))
      clear hhi hlo hT hbx
      go_wp2_with (first
        | (show wpList _ _ _ ((⟨some 45, _, _, _, _, _⟩ : Oper) :: _) _ _; refine wpList_load_mid (o := ⟨some 45, _, _, _, _, _⟩) (range2 (b := s0) (off := 9) (u := .int .u64 (hi : Nat)) (v := .int .u64 (lo : Nat)) (d9) (d10)) (by rfl) _ _ (by rfl) (by rfl) _ Try.underlying24 (by rfl) sizeU (by rfl) ?_)
        | fail)
      refine (rid_any hi lo wr).mono ?_
      rintro e w6 ⟨rfl, hbx⟩
      (replace hown := keep hbx hown)
      have hB6 := hBr.trans (hbx.mono hsz)
      clear hbx d9 d10 hBr hsz
      rw [idv_all]
      have hid : (le8 lo ++ le8 hi).length = 16 := rfl
      obtain ⟨S, hS⟩ : ∃ S, S = le8 lo ++ le8 hi := ⟨_, rfl⟩
      rw [← hS] at hid ⊢
      have HS2 := Lib.hid hS
      have HID := Lib.hid hid
      clear hS hid
      have a16 := alloc16
      obtain ⟨C0, hC0⟩ : ∃ C0, C0 = s ++ four_ f [0, 1, 2, 3, 4, 5, 6, 7, 8] := ⟨_, rfl⟩
      have hl0 : C0.length = 52 := by rw [hC0, List.length_append, four_length, HS.out]; rfl
      rw [← hC0] at hown
      have HC0 := Lib.hid hC0
      have HL0 := Lib.hid hl0
      clear hC0 hl0
      have hz6 := hB6.size
      have hid := HID.out
      go_wp2_with (first
        | (show wpList _ _ _ ((⟨none, _, _, _, _, _⟩ : Oper) :: _) _ _; refine wpList_store_blk (o := ⟨none, _, _, _, _, _⟩) (Blk.new w6 57 zero16) (by rfl) _ _ _ (by rfl) (by rfl) (S.map u8v).toArray (by rfl) size16 (arr_size _ _) (by simp [hid]) (u8_all _) ?_; intro w7 h7 hux; have hbx := ((Below.refl _ _).alloc (Nat.le_refl _) (.cells zero16 57)).upd hux (Nat.le_refl w6.heap.size); replace hown := keep hbx hown; replace hB6 := hB6.trans (hbx.mono hB6.size); clear hux hbx)
        | (show wpList _ _ _ ((⟨some 49, _, _, _, _, _⟩ : Oper) :: _) _ _; refine wpList_append_bytes (o := ⟨some 49, _, _, _, _, _⟩) (by rfl) _ _ _ (by rfl) w2.heap.size _ Try.underlying27 u8info _ C0 sp (by rfl) hown (some ⟨w6.heap.size, 0, none⟩) 16 S (by rw [hid]; rfl) h7.bytes (by rw [hid, HL0.out]; omega) hB6.size ?_; intro v8 w8 sp8 ho8 hg8 _ _; have hB8 := hB6.grown hg8 hB6.size (fun k hk => (OwnsC.lt hown k hk).1); clear hg8 hown hB6 h7 a16; obtain ⟨C8, hC8⟩ : ∃ C8, C8 = C0 ++ S := ⟨_, rfl⟩; have hl8 : C8.length = 68 := (by rw [hC8, List.length_append, hid, HL0.out]); rw [← hC8] at ho8; have HC8 := Lib.hid hC8; have HL8 := Lib.hid hl8; clear hC8 hl8 hid hz6; obtain ⟨N11, hN11⟩ : ∃ n : Nat, f 11 = (n : Int) := ⟨(f 11).toNat, by have := (HF.out 11 (by simp [thirteen])).1; omega⟩; (have hM11 : N11 < 4294967296 := by have := (HF.out 11 (by simp [thirteen])).2; omega); have hC9 : Hid (leb N11 4 = le4 (f 11).toNat) := Lib.hid (by rw [hN11, leb_4 N11 hM11, Int.toNat_natCast]); have hbx9 := hb0.below hB8 hb0.lt; have e9 := (hbx9.at_ 11 (hdc_at f 11 (by omega) (by omega) (by omega) (by omega))).trans (by rw [hN11]); (have hn9 : C8.length ≤ 100000 := by rw [HL8.out]; omega); have hsz9 := hB8.size; clear hbx9)
        | fail)
      go_wp2_with fail
      refine (rput4_any w2.heap.size v8 C8 sp8 N11 4 (by omega) hn9 w8 hsz9 ho8).mono ?_
      rintro e w9 ⟨v9, sp9, rfl, ho9, hg9, hw9⟩
      have hB9 := hB8.grown hg9 hsz9 (fun k hk => (OwnsC.lt ho8 k hk).1)
      obtain ⟨C9, hD9⟩ : ∃ C, C = C8 ++ leb N11 4 := ⟨_, rfl⟩
      have hl9 : C9.length = 72 := by rw [hD9, List.length_append, leb_length _ _ (by omega), HL8.out]
      rw [← hD9] at ho9
      have HC9 := Lib.hid hD9
      have HL9 := Lib.hid hl9
      clear hD9 hl9 hg9 hw9 ho8 hB8 e9 hn9 hsz9
      clear hN11 hM11
      obtain ⟨N12, hN12⟩ : ∃ n : Nat, f 12 = (n : Int) := ⟨(f 12).toNat, by have := (HF.out 12 (by simp [thirteen])).1; omega⟩
      have hM12 : N12 < 4294967296 := by have := (HF.out 12 (by simp [thirteen])).2; omega
      have hC10 : Hid (leb N12 4 = le4 (f 12).toNat) := Lib.hid (by rw [hN12, leb_4 N12 hM12, Int.toNat_natCast])
      have hbx10 := hb0.below hB9 hb0.lt
      have e10 := (hbx10.at_ 12 (hdc_at f 12 (by omega) (by omega) (by omega) (by omega))).trans (by rw [hN12])
      have hn10 : C9.length ≤ 100000 := by rw [HL9.out]; omega
      have hsz10 := hB9.size
      clear hbx10
      go_wp2_with fail
      refine (rput4_any w2.heap.size v9 C9 sp9 N12 4 (by omega) hn10 w9 hsz10 ho9).mono ?_
      rintro e w10 ⟨v10, sp10, rfl, ho10, hg10, hw10⟩
      have hB10 := hB9.grown hg10 hsz10 (fun k hk => (OwnsC.lt ho9 k hk).1)
      obtain ⟨C10, hD10⟩ : ∃ C, C = C9 ++ leb N12 4 := ⟨_, rfl⟩
      have hl10 : C10.length = 76 := by rw [hD10, List.length_append, leb_length _ _ (by omega), HL9.out]
      rw [← hD10] at ho10
      have HC10 := Lib.hid hD10
      have HL10 := Lib.hid hl10
      clear hD10 hl10 hg10 hw10 ho9 hB9 e10 hn10 hsz10
      clear hN12 hM12
      have hC11 : Hid (leb T 8 = le8 (f 13).toNat) := Lib.hid (by rw [HN.out.2.2, leb_8, Int.toNat_natCast])
      have hbx11 := hb0.below hB10 hb0.lt
      have e11 := (hbx11.at_ 13 (hdc_u f 13 (by omega))).trans (by rw [HN.out.2.2])
      have hn11 : C10.length ≤ 100000 := by rw [HL10.out]; omega
      have hsz11 := hB10.size
      clear hbx11
      go_wp2_with fail
      refine (rput4_any w2.heap.size v10 C10 sp10 T 8 (by omega) hn11 w10 hsz11 ho10).mono ?_
      rintro e w11 ⟨v11, sp11, rfl, ho11, hg11, hw11⟩
      have hB11 := hB10.grown hg11 hsz11 (fun k hk => (OwnsC.lt ho10 k hk).1)
      obtain ⟨C11, hD11⟩ : ∃ C, C = C10 ++ leb T 8 := ⟨_, rfl⟩
      have hl11 : C11.length = 84 := by rw [hD11, List.length_append, leb_length _ _ (by omega), HL10.out]
      rw [← hD11] at ho11
      have HC11 := Lib.hid hD11
      have HL11 := Lib.hid hl11
      clear hD11 hl11 hg11 hw11 ho10 hB10 e11 hn11 hsz11
      obtain ⟨N14, hN14⟩ : ∃ n : Nat, f 14 = (n : Int) := ⟨(f 14).toNat, by have := (HF.out 14 (by simp [thirteen])).1; omega⟩
      have hM14 : N14 < 4294967296 := by have := (HF.out 14 (by simp [thirteen])).2; omega
      have hC12 : Hid (leb N14 4 = le4 (f 14).toNat) := Lib.hid (by rw [hN14, leb_4 N14 hM14, Int.toNat_natCast])
      have hbx12 := hb0.below hB11 hb0.lt
      have e12 := (hbx12.at_ 14 (hdc_at f 14 (by omega) (by omega) (by omega) (by omega))).trans (by rw [hN14])
      have hn12 : C11.length ≤ 100000 := by rw [HL11.out]; omega
      have hsz12 := hB11.size
      clear hbx12
      go_wp2_with fail
      refine (rput4_any w2.heap.size v11 C11 sp11 N14 4 (by omega) hn12 w11 hsz12 ho11).mono ?_
      rintro e w12 ⟨v12, sp12, rfl, ho12, hg12, hw12⟩
      have hB12 := hB11.grown hg12 hsz12 (fun k hk => (OwnsC.lt ho11 k hk).1)
      obtain ⟨C12, hD12⟩ : ∃ C, C = C11 ++ leb N14 4 := ⟨_, rfl⟩
      have hl12 : C12.length = 88 := by rw [hD12, List.length_append, leb_length _ _ (by omega), HL11.out]
      rw [← hD12] at ho12
      have HC12 := Lib.hid hD12
      have HL12 := Lib.hid hl12
      clear hD12 hl12 hg12 hw12 ho11 hB11 e12 hn12 hsz12
      clear hN14 hM14
      obtain ⟨N15, hN15⟩ : ∃ n : Nat, f 15 = (n : Int) := ⟨(f 15).toNat, by have := (HF.out 15 (by simp [thirteen])).1; omega⟩
      have hM15 : N15 < 4294967296 := by have := (HF.out 15 (by simp [thirteen])).2; omega
      have hC13 : Hid (leb N15 4 = le4 (f 15).toNat) := Lib.hid (by rw [hN15, leb_4 N15 hM15, Int.toNat_natCast])
      have hbx13 := hb0.below hB12 hb0.lt
      have e13 := (hbx13.at_ 15 (hdc_at f 15 (by omega) (by omega) (by omega) (by omega))).trans (by rw [hN15])
      have hn13 : C12.length ≤ 100000 := by rw [HL12.out]; omega
      have hsz13 := hB12.size
      clear hbx13
      go_wp2_with fail
      refine (rput4_any w2.heap.size v12 C12 sp12 N15 4 (by omega) hn13 w12 hsz13 ho12).mono ?_
      rintro e w13 ⟨v13, sp13, rfl, ho13, hg13, hw13⟩
      have hB13 := hB12.grown hg13 hsz13 (fun k hk => (OwnsC.lt ho12 k hk).1)
      obtain ⟨C13, hD13⟩ : ∃ C, C = C12 ++ leb N15 4 := ⟨_, rfl⟩
      have hl13 : C13.length = 92 := by rw [hD13, List.length_append, leb_length _ _ (by omega), HL12.out]
      rw [← hD13] at ho13
      have HC13 := Lib.hid hD13
      have HL13 := Lib.hid hl13
      clear hD13 hl13 hg13 hw13 ho12 hB12 e13 hn13 hsz13
      clear hN15 hM15
      have HX : Hid (C13 ++ List.replicate 148 0 = Hd.rest f s) := Lib.hid (by
        rw [HC13.out, HC12.out, HC11.out, HC10.out, HC9.out, HC8.out, HC0.out, HS2.out, hC9.out, hC10.out, hC11.out, hC12.out, hC13.out]
        unfold Hd.rest Hd.mid
        rw [HN.out.1, HN.out.2.1, Int.toNat_natCast, Int.toNat_natCast]
        simp [four_])
      obtain ⟨A13, c13, rfl, _⟩ := OwnB.open_ ho13
      have hsz := hB13.size
      rw [HL13.out] at ho13 ⊢
      go_wp2_with (first
        | (show wpList _ _ _ ((⟨some 78, _, _, _, _, _⟩ : Oper) :: _) _ _; refine wpList_append_zeros (o := ⟨some 78, _, _, _, _, _⟩) (by rfl) _ _ _ _ (by rfl) w2.heap.size _ .i64 Try.underlying27 Try.underlying3 u8info _ C13 sp13 (by rfl) ho13 148 (by rfl) (by rw [HL13.out]; omega) hsz ?_; intro v14 w14 sp14 ho14 hg14 _; have hB14 := hB13.grown hg14 hsz (fun k hk => (OwnsC.lt ho13 k hk).1); clear hg14 ho13 hB13)
        | fail)
      rw [HX.out] at ho14
      go_ret
      exact ⟨_, _, rfl, OwnsC.base_ ho14 (by rw [HSZ.out]; omega), by rw [hs0]; exact hB.out.trans (hB14.mono (by have := hB.out.size; omega))⟩
end Go.Proofs.Ytekdcjaljjlemaa

/- May a header be: the document's answer. No condition. -/
namespace Go.Proofs.Ytekdcjaljjlemaa
open Go.RowKit
theorem within_any (n a b : Int) (w : World) : Calls Try.prog 30 #[.int .i64 n, .int .i64 a, .int .i64 b] w fun e w' => e = .returned (.bool (decide (a ≤ n) && decide (n ≤ b))) ∧ w = w' := by
  by_cases h1 : a ≤ n
  · rw [decide_eq_true h1, Bool.true_and]
    go_enter Try.func30, Try.ntmps30
    go_wp2
    go_ret
    exact ⟨rfl, rfl⟩
  · rw [decide_eq_false h1, Bool.false_and]
    have h2 : n < a := by omega
    clear h1
    go_enter Try.func30, Try.ntmps30
    go_wp2
    go_ret
    exact ⟨rfl, rfl⟩
def okK (f : HdF) (b : Bool) (k : Nat) : Bool := b && (tenI.take k).all fun i => numOk (f i)
theorem okK_succ (f : HdF) (b : Bool) (k : Nat) (hk : k < 10) : okK f b (k + 1) = (okK f b k && numOk (f (tenI.getD k 0))) := by
  unfold okK
  have hl : tenI.length = 10 := rfl
  rw [List.take_succ_eq_append_getElem (by omega), List.all_append]
  simp only [List.all_cons, List.all_nil, Bool.and_true]
  rw [Bool.and_assoc, List.getD_eq_getElem?_getD, List.getElem?_eq_getElem (by omega)]; rfl
def RChkRel (f : HdF) (u v : Value) : Prop := ∃ (b : Bool) (k : Nat), (Hd.code f = if okK f b 10 then 0 else 2) ∧ k ≤ 10 ∧ v = .int .i64 (k : Int) ∧ u = .bool (okK f b k)
set_option maxHeartbeats 1000000 in
theorem rhcheck_any (f : HdF) (w : World) :
    Calls Try.prog 12 #[.agg (hdc f)] w fun e w' => e = .returned (.int .i64 (Hd.code f)) ∧ Below w.heap.size w w' := by
  have hg := Blk.new w 26 (hdc f)
  have hB0 := (Below.refl w.heap.size w).alloc (Nat.le_refl _) (.cells (hdc f) 26)
  have hfc : ∀ i, i < 16 → i ≠ 9 → i ≠ 10 → i ≠ 13 → (w.alloc (.cells (hdc f) 26)).cell? ⟨w.heap.size, i, none⟩ = some (.int .i64 (f i)) := fun i h1 h2 h3 h4 => hg.at_ i (hdc_at f i h1 h2 h3 h4)
  have c0 := hfc 0 (by omega) (by omega) (by omega) (by omega)
  have c1 := hfc 1 (by omega) (by omega) (by omega) (by omega)
  have c2 := hfc 2 (by omega) (by omega) (by omega) (by omega)
  have c3 := hfc 3 (by omega) (by omega) (by omega) (by omega)
  have c4 := hfc 4 (by omega) (by omega) (by omega) (by omega)
  have c5 := hfc 5 (by omega) (by omega) (by omega) (by omega)
  have c6 := hfc 6 (by omega) (by omega) (by omega) (by omega)
  have c7 := hfc 7 (by omega) (by omega) (by omega) (by omega)
  have c8 := hfc 8 (by omega) (by omega) (by omega) (by omega)
  have c11 := hfc 11 (by omega) (by omega) (by omega) (by omega)
  have c12 := hfc 12 (by omega) (by omega) (by omega) (by omega)
  have c14 := hfc 14 (by omega) (by omega) (by omega) (by omega)
  have c15 := hfc 15 (by omega) (by omega) (by omega) (by omega)
  have q0 := fun w' => within_any (f 0) 1 31 w'
  have q1 := fun w' => within_any (f 1) 0 6 w'
  have q2 := fun w' => within_any (f 2) 0 1024 w'
  have hcode : ∀ b0 b1 b2 : Bool, (decide (1 ≤ f 0) && decide (f 0 ≤ 31)) = b0 → (decide (0 ≤ f 1) && decide (f 1 ≤ 6)) = b1 → (decide (0 ≤ f 2) && decide (f 2 ≤ 1024)) = b2 → Hd.code f = if okK f (b0 && b1 && b2) 10 then 0 else 2 := by
    rintro b0 b1 b2 rfl rfl rfl
    unfold Hd.code Hd.ok okK
    rw [show tenI.take 10 = tenI from rfl]
    simp only [Bool.and_assoc]
  generalize hb0 : (decide (1 ≤ f 0) && decide (f 0 ≤ 31)) = b0 at q0
  generalize hb1 : (decide (0 ≤ f 1) && decide (f 1 ≤ 6)) = b1 at q1
  generalize hb2 : (decide (0 ≤ f 2) && decide (f 2 ≤ 1024)) = b2 at q2
  have HC := Lib.hid (hcode b0 b1 b2 hb0 hb1 hb2)
  have HB := Lib.hid hB0
  clear hcode hb0 hb1 hb2 hfc hB0 hg
  go_enter Try.func12, Try.ntmps12
  go_wp2_with fail
  refine (q0 _).mono ?_
  rintro e w1 ⟨rfl, rfl⟩
  cases b0
  case' true =>
    go_wp2_with fail
    refine (q1 _).mono ?_
    rintro e w1 ⟨rfl, rfl⟩
    cases b1
    case' true =>
      go_wp2_with fail
      refine (q2 _).mono ?_
      rintro e w1 ⟨rfl, rfl⟩
      cases b2
  all_goals
    clear q0 q1 q2
    go_wp2_with fail
    generalize hw2 : (w.alloc (.cells (hdc f) 26)).alloc _ = w2
    have hl : Blk w2 (w.heap.size + 1) 3 (tenI.map fun i => Value.int .i64 (f i)).toArray := by
      rw [← hw2]; exact Blk.new' _ _ _ (by simp)
    have HB2 := Lib.hid (show Below w.heap.size w w2 by rw [← hw2]; exact HB.out.alloc (by simp) _)
    have hpc : ∀ k, k < 10 → w2.cell? ⟨w.heap.size + 1, k, none⟩ = some (.int .i64 (f (tenI.getD k 0))) := fun k hk => hl.at_ k (by
      have : k = 0 ∨ k = 1 ∨ k = 2 ∨ k = 3 ∨ k = 4 ∨ k = 5 ∨ k = 6 ∨ k = 7 ∨ k = 8 ∨ k = 9 := by omega
      rcases this with rfl | rfl | rfl | rfl | rfl | rfl | rfl | rfl | rfl | rfl <;> rfl)
    clear hw2 HB hl c0 c1 c2 c3 c4 c5 c6 c7 c8 c11 c12 c14 c15
    go_loop [3, 5] (fun u v => RChkRel f u v) (fun _ v => 10 - (intOf v).toNat)
    case atStart => exact ⟨_, 0, HC.out, by omega, rfl, rfl⟩
    case round =>
      obtain ⟨B, k, hc, hk, rfl, rfl⟩ := hrel
      have HC1 := Lib.hid hc
      clear HC hc
      by_cases hk10 : k < 10
      · have d0 := hpc k hk10
        have hs := okK_succ f B k hk10
        have qk := within_any (f (tenI.getD k 0)) 0 1073741824 w2
        rw [show (decide (0 ≤ f (tenI.getD k 0)) && decide (f (tenI.getD k 0) ≤ 1073741824)) = numOk (f (tenI.getD k 0)) from rfl] at qk
        generalize f (tenI.getD k 0) = x at d0 qk hs
        generalize numOk x = y at qk hs
        generalize okK f B k = z at hs
        have HS := Lib.hid hs
        clear hs hpc
        cases z
        · go_wp2_with fail
          go_round
          case rel =>
            have hch : RChkRel f (.bool false) (.int .i64 ((k : Int) + 1)) := ⟨B, k + 1, HC1.out, by omega, by go_num, by rw [HS.out]; rfl⟩
            first | exact hch | exact ⟨_, hch, rfl, rfl⟩
          case measure => simp [intOf]; omega
        · go_wp2_with fail
          refine qk.mono ?_
          rintro e w3 ⟨rfl, rfl⟩
          clear qk
          go_wp2
          go_round
          case rel =>
            have hch : RChkRel f (.bool y) (.int .i64 ((k : Int) + 1)) := ⟨B, k + 1, HC1.out, by omega, by go_num, by rw [HS.out]; rfl⟩
            first | exact hch | exact ⟨_, hch, rfl, rfl⟩
          case measure => simp [intOf]; omega
      · obtain rfl : k = 10 := by omega
        clear hpc
        generalize okK f B 10 = z at HC1
        cases z
        · go_wp2
          go_ret
          exact ⟨ret_int HC1.out.symm, HB2.out⟩
        · go_wp2
          go_ret
          exact ⟨ret_int HC1.out.symm, HB2.out⟩
end Go.Proofs.Ytekdcjaljjlemaa

/- What the document's function answers that seals bytes. Conditions: the bytes can be read; they are at most 2^47 - 5000. -/
namespace Go
open Go.RowKit
namespace Proofs.Ytekdcjaljjlemaa
set_option maxHeartbeats 400000 in
theorem rseal_any (A : Option Addr) (n c : Nat) (l : List UInt8) (hn : n = l.length) (hc : l.length ≤ c) (hc2 : l.length ≤ 140737488351232 ∧ c ≤ 9223372036854775807) (w : World) (hb : Bytes w A l) :
    Calls Try.prog 26 #[.slice A n c] w fun e w' => ∃ v sp, e = .returned v ∧ OwnB 5 w' w.heap.size v (Sha.seal_ l) sp ∧ Below w.heap.size w w' := by
  subst hn
  go_enter Try.func26, Try.ntmps26
  go_wp2_with fail
  refine (rsum_any A c l hc hc2 w hb).mono ?_
  rintro e w1 ⟨rfl, hb1⟩
  have hs16 := Sha.sum_length l
  obtain ⟨S, hS⟩ : ∃ S, S = Sha.sum l := ⟨_, rfl⟩
  rw [← hS] at hs16 ⊢
  have HS := Lib.hid hS
  clear hS
  have a16 := alloc16
  have hz := Blk.new w1 57 zero16
  have hbz := hb1.alloc hb1.size (.cells zero16 57)
  go_wp2_with (first
    | (show wpList _ _ _ ((⟨none, _, _, _, _, _⟩ : Oper) :: _) _ _; refine wpList_store_blk (o := ⟨none, _, _, _, _, _⟩) hz (by rfl) _ _ _ (by rfl) (by rfl) (S.map u8v).toArray (by rfl) size16 (arr_size _ _) (by simp [hs16]) (u8_all _) ?_; intro w2 h2 hu2; have hb2 := hbz.upd hu2 hb1.size; have hbl2 := Bytes.below hb hb2; have hb3 := hb2.alloc hb2.size (.cells #[] 5); have ho3 := OwnB.lit0 (e := 5) w2 hb2.size; have hS3 := (h2.alloc (.cells #[] 5)).bytes; have hsz3 := hb3.size; clear hu2 hbz hz h2 hbl2 hb2)
    | (show wpList _ _ _ ((⟨some 8, _, _, _, _, _⟩ : Oper) :: _) _ _; refine wpList_append_bytes (o := ⟨some 8, _, _, _, _, _⟩) (by rfl) _ _ _ (by rfl) w.heap.size _ Try.underlying27 u8info (.slice (some ⟨w2.heap.size, 0, none⟩) 0 0) [] _ (by rfl) ho3 (some ⟨w1.heap.size, 0, none⟩) 16 S (by rw [hs16]; rfl) hS3 (by simp; omega) hsz3 ?_; intro v4 w4 sp4 ho4 hg4 _ _; have hb4 := hb3.grown hg4 hsz3 (fun k hk => (OwnsC.lt ho3 k hk).1); have hl4 := Bytes.below hb hb4; have hsz4 := hb4.size; clear ho3 hS3 hb3 hg4)
    | (show wpList _ _ _ ((⟨some 10, _, _, _, _, _⟩ : Oper) :: _) _ _; refine wpList_append_bytes (o := ⟨some 10, _, _, _, _, _⟩) (by rfl) _ _ _ (by rfl) w.heap.size _ Try.underlying27 u8info v4 ([] ++ S) sp4 (by rfl) ho4 A c l (by rfl) hl4 (by simp; omega) hsz4 ?_; intro v5 w5 sp5 ho5 hg5 _ _; have hb5 := hb4.grown hg5 hsz4 (fun k hk => (OwnsC.lt ho4 k hk).1); clear ho4 hl4 hb4 hg5)
    | fail)
  go_ret
  exact ⟨v5, sp5, rfl, by rw [List.nil_append, HS.out] at ho5; exact ho5, hb5⟩
end Proofs.Ytekdcjaljjlemaa
end Go

/- A message's bytes, the document's. Conditions: the body can be read; the numbers are what Go's types hold. -/
namespace Go.Proofs.Ytekdcjaljjlemaa
open Go.RowKit
theorem rhseal_long (f : HdF) (A : Option Addr) (c : Nat) (body : List UInt8) (w : World) (hlong : 1024 < body.length) :
    Calls Try.prog 9 #[.agg (msgc f (.slice A body.length c))] w fun e w' => e = .returned (.tuple #[.slice none 0 0, .int .i64 3]) ∧ Below w.heap.size w w' := by
  have hg := Blk.new w 29 (msgc f (.slice A body.length c))
  have hB := Lib.hid ((Below.refl w.heap.size w).alloc (Nat.le_refl _) (.cells (msgc f (.slice A body.length c)) 29))
  have d16 := hg.at_ 16 (msgc_16 f _)
  clear hg
  go_enter Try.func9, Try.ntmps9
  go_wp2
  go_ret2
  exact ⟨rfl, hB.out⟩
set_option maxHeartbeats 1000000 in
theorem rhseal_no (f : HdF) (A : Option Addr) (c : Nat) (body : List UInt8) (w : World) (hlong : body.length ≤ 1024) (hno : Hd.ok (setF f 2 body.length) = false) :
    Calls Try.prog 9 #[.agg (msgc f (.slice A body.length c))] w fun e w' => e = .returned (.tuple #[.slice none 0 0, .int .i64 2]) ∧ Below w.heap.size w w' := by
  have hg := Blk.new w 29 (msgc f (.slice A body.length c))
  have hB := Lib.hid ((Below.refl w.heap.size w).alloc (Nat.le_refl _) (.cells (msgc f (.slice A body.length c)) 29))
  have d16 := hg.at_ 16 (msgc_16 f _)
  have HR := Lib.hid (hd_range hg)
  have HG := Lib.hid hg
  have HNO := Lib.hid hno
  clear hg hno
  go_enter Try.func9, Try.ntmps9
  go_wp2_with (first
    | (show wpList _ _ _ ((⟨some 10, _, _, _, _, _⟩ : Oper) :: _) _ _; refine wpList_load_mid (o := ⟨some 10, _, _, _, _, _⟩) HR.out (by rfl) _ _ (by rfl) (by rfl) _ Try.underlying26 (by rfl) sizeHd (by rw [Array.length_toList, hdc_size]) ?_; rw [Array.toArray_toList]; clear HR d16; generalize World.alloc w _ = w1 at HG hB ⊢; have hlt := HG.out.lt)
    | (show wpList _ _ _ ((⟨none, _, _, _, _, _⟩ : Oper) :: _) _ _; refine wpList_store_blk (o := ⟨none, _, _, _, _, _⟩) ((Blk.new w1 26 #[.int .i64 0, .int .i64 0, .int .i64 0, .int .i64 0, .int .i64 0, .int .i64 0, .int .i64 0, .int .i64 0, .int .i64 0, .int .u64 0, .int .u64 0, .int .i64 0, .int .i64 0, .int .u64 0, .int .i64 0, .int .i64 0]).sub zeroHd_cells.symm) (by rfl) _ _ _ (by rfl) (by rfl) (hdc f) (by rfl) (sizeHd) (hdc_size _) (hdc_size _) (hdc_one _) ?_; intro w2 h2 hu2; have hbx := ((Below.refl w1.heap.size w1).alloc (Nat.le_refl _) (.cells #[.int .i64 0, .int .i64 0, .int .i64 0, .int .i64 0, .int .i64 0, .int .i64 0, .int .i64 0, .int .i64 0, .int .i64 0, .int .u64 0, .int .u64 0, .int .i64 0, .int .i64 0, .int .u64 0, .int .i64 0, .int .i64 0] 26)).upd hu2 (Nat.le_refl _); have HG2 := Lib.hid (HG.out.below hbx hlt); have HB2 := Lib.hid (hB.out.trans (hbx.mono hB.out.size)); have d16 := HG2.out.at_ 16 (msgc_16 f _); have fz := h2.frozen 2; have dz := h2.at_ 2 (hdc_at f 2 (by omega) (by omega) (by omega) (by omega)); have HS := Lib.hid (And.intro ((h2.set_ 2 (.int .i64 (body.length : Nat))).sub (hdc_set f 2 _ (by omega) (by omega) (by omega))) (And.intro (HG2.out.off (c := w1.heap.size) (i := 2) (by omega) (.int .i64 (body.length : Nat))) (HB2.out.set_ (c := w1.heap.size) (i := 2) (by omega) (.int .i64 (body.length : Nat))))); clear hu2 hbx HG hB HG2 HB2 h2)
    | (show wpList _ _ _ ((⟨some 15, _, _, _, _, _⟩ : Oper) :: _) _ _; clear fz dz d16; generalize World.setCell w2 _ _ = w3 at HS ⊢; generalize w1.heap.size = hb at HS hlt ⊢; obtain ⟨hh, hG, hB⟩ := HS.out; clear HS; (show wpList _ _ _ ((⟨some 15, _, _, _, _, _⟩ : Oper) :: _) _ _; refine wpList_load_blk (o := ⟨some 15, _, _, _, _, _⟩) (hh) (by rfl) _ _ (by rfl) (by rfl) _ Try.underlying26 (by rfl) (sizeHd) (hdc_size _) ?_))
    | fail)
  refine (rhcheck_any _ w3).mono ?_
  rintro e w4 ⟨rfl, hbx⟩
  (replace hB := hB.trans (hbx.mono hB.size); clear hbx hG hh)
  rw [show Hd.code (setF f 2 body.length) = 2 by unfold Hd.code; rw [HNO.out]; rfl]
  go_wp2
  go_ret2
  exact ⟨rfl, hB⟩
set_option maxRecDepth 100000 in
set_option maxHeartbeats 4000000 in
theorem rhseal_ok (f : HdF) (A : Option Addr) (c : Nat) (body : List UInt8) (w : World) (hby : Bytes w A body) (hc : body.length ≤ c ∧ c ≤ 9223372036854775807) (hlong : body.length ≤ 1024) (hok : Hd.ok (setF f 2 body.length) = true) (hin : Hd.in_ f) :
    Calls Try.prog 9 #[.agg (msgc f (.slice A body.length c))] w fun e w' => ∃ v sp, e = .returned (.tuple #[v, .int .i64 0]) ∧
      OwnB 5 w' w.heap.size v (Hd.bytes (setF f 2 body.length) body) sp ∧ Below w.heap.size w w' := by
  have hg := Blk.new w 29 (msgc f (.slice A body.length c))
  have hB := Lib.hid ((Below.refl w.heap.size w).alloc (Nat.le_refl _) (.cells (msgc f (.slice A body.length c)) 29))
  have d16 := hg.at_ 16 (msgc_16 f _)
  have HR := Lib.hid (hd_range hg)
  have HG := Lib.hid hg
  have HOK := Lib.hid (And.intro hok (setF_in f body.length hin))
  have HC := Lib.hid hc
  clear hg hok hin hc
  go_enter Try.func9, Try.ntmps9
  go_wp2_with (first
    | (show wpList _ _ _ ((⟨some 10, _, _, _, _, _⟩ : Oper) :: _) _ _; refine wpList_load_mid (o := ⟨some 10, _, _, _, _, _⟩) HR.out (by rfl) _ _ (by rfl) (by rfl) _ Try.underlying26 (by rfl) sizeHd (by rw [Array.length_toList, hdc_size]) ?_; rw [Array.toArray_toList]; clear HR d16; generalize World.alloc w _ = w1 at HG hB ⊢; have hlt := HG.out.lt)
    | (show wpList _ _ _ ((⟨none, _, _, _, _, _⟩ : Oper) :: _) _ _; refine wpList_store_blk (o := ⟨none, _, _, _, _, _⟩) ((Blk.new w1 26 #[.int .i64 0, .int .i64 0, .int .i64 0, .int .i64 0, .int .i64 0, .int .i64 0, .int .i64 0, .int .i64 0, .int .i64 0, .int .u64 0, .int .u64 0, .int .i64 0, .int .i64 0, .int .u64 0, .int .i64 0, .int .i64 0]).sub zeroHd_cells.symm) (by rfl) _ _ _ (by rfl) (by rfl) (hdc f) (by rfl) (sizeHd) (hdc_size _) (hdc_size _) (hdc_one _) ?_; intro w2 h2 hu2; have hbx := ((Below.refl w1.heap.size w1).alloc (Nat.le_refl _) (.cells #[.int .i64 0, .int .i64 0, .int .i64 0, .int .i64 0, .int .i64 0, .int .i64 0, .int .i64 0, .int .i64 0, .int .i64 0, .int .u64 0, .int .u64 0, .int .i64 0, .int .i64 0, .int .u64 0, .int .i64 0, .int .i64 0] 26)).upd hu2 (Nat.le_refl _); have HG2 := Lib.hid (HG.out.below hbx hlt); have HB2 := Lib.hid (hB.out.trans (hbx.mono hB.out.size)); have d16 := HG2.out.at_ 16 (msgc_16 f _); have fz := h2.frozen 2; have dz := h2.at_ 2 (hdc_at f 2 (by omega) (by omega) (by omega) (by omega)); have HS := Lib.hid (And.intro ((h2.set_ 2 (.int .i64 (body.length : Nat))).sub (hdc_set f 2 _ (by omega) (by omega) (by omega))) (And.intro (HG2.out.off (c := w1.heap.size) (i := 2) (by omega) (.int .i64 (body.length : Nat))) (HB2.out.set_ (c := w1.heap.size) (i := 2) (by omega) (.int .i64 (body.length : Nat))))); clear hu2 hbx HG hB HG2 HB2 h2)
    | (show wpList _ _ _ ((⟨some 15, _, _, _, _, _⟩ : Oper) :: _) _ _; clear fz dz d16; generalize World.setCell w2 _ _ = w3 at HS ⊢; generalize w1.heap.size = hb at HS hlt ⊢; obtain ⟨hh, hG, hB⟩ := HS.out; clear HS; (show wpList _ _ _ ((⟨some 15, _, _, _, _, _⟩ : Oper) :: _) _ _; refine wpList_load_blk (o := ⟨some 15, _, _, _, _, _⟩) (hh) (by rfl) _ _ (by rfl) (by rfl) _ Try.underlying26 (by rfl) (sizeHd) (hdc_size _) ?_))
    | fail)
  have HBY := Lib.hid hby
  replace hby := Bytes.below hby hB
  refine (rhcheck_any _ w3).mono ?_
  rintro e w4 ⟨rfl, hbx⟩
  (replace hby := keep hbx hby; replace hh := keep hbx hh; replace hG := keep hbx hG; replace hB := hB.trans (hbx.mono hB.size); clear hbx)
  rw [show Hd.code (setF f 2 body.length) = 0 by unfold Hd.code; rw [HOK.out.1]; rfl]
  have hs16 := Sha.sum_length body
  obtain ⟨fx, hfx⟩ : ∃ fx, fx = setF f 2 body.length := ⟨_, rfl⟩
  rw [← hfx] at hh HOK ⊢
  have HSS := Lib.hid hs16
  have HFX := Lib.hid hfx
  clear hfx hs16
  go_wp2_with fail
  refine wp_region_tree (Below w4.heap.size w4) [] (PlanT.takes [1, 6] (PlanT.takes [0, 2, 7] (.opt 3 (.opt 4 (.opt 5 (.opt 8 (PlanT.takes [9, 10] .done) .no) .no) .no) .no))) (by kernel_rfl) (by kernel_rfl) ((Below.refl _ _).drew) ?_
  refine wpTree_pure _ _ _ (by rfl) (by rfl) ?_
  dsimp only [List.filterMap, List.getElem?_cons_zero, List.getElem?_cons_succ]
  repeat (go_big_quiet_step (fail))
  refine wpQuiet_nil ?_
  refine wpTree_takeL _ _ _ (by rfl) (by rfl) ((Below.refl _ _).drew) ?_
  dsimp only [List.filterMap, List.getElem?_cons_zero, List.getElem?_cons_succ]
  (refine wpQuiet_want' (by rfl) ?_; refine wpQuiet_load_blk (fun w' hw' => hh.below hw' hh.lt) (by rfl) _ _ (by rfl) (by rfl) _ Try.underlying26 (by rfl) (sizeHd) (hdc_size _) ?_; simp only [Act.put, List.setIfInBounds_toArray, List.set_cons_zero, List.set_cons_succ])
  (refine wpQuiet_want' (by rfl) ?_; refine wpQuiet_load_cell (fun w' hw' => (hG.below hw' hG.lt).at_ 16 (msgc_16 f _)) (by rfl) _ _ (by rfl) (by rfl) _ Try.underlying27 (by rfl) ?_; simp only [Act.put, List.setIfInBounds_toArray, List.set_cons_zero, List.set_cons_succ])
  (refine wpQuiet_want' (by rfl) ?_; refine wpQuiet_load_cell (fun w' hw' => (hG.below hw' hG.lt).at_ 16 (msgc_16 f _)) (by rfl) _ _ (by rfl) (by rfl) _ Try.underlying27 (by rfl) ?_; simp only [Act.put, List.setIfInBounds_toArray, List.set_cons_zero, List.set_cons_succ])
  refine wpQuiet_nil ?_
  refine wpTree_one _ rfl ?_
  go_wp2_with fail
  refine (rsum_any A c body HC.out.1 ⟨by omega, HC.out.2⟩ w4.drew hby).mono ?_
  rintro e w5 ⟨rfl, hb5⟩
  have hc5 : Below w4.heap.size w4 w5 := (Below.refl _ _).drew.trans (hb5.mono (Nat.le_refl _))
  clear hb5
  go_wp2_with fail
  refine TreeQ.in_ hc5 ?_
  refine wpTree_one _ rfl ?_
  go_wp2_with fail
  refine (rhbehind_any fx (Sha.sum body) HSS.out (Hd.ok_all HOK.out.1) HOK.out.2 w5).mono ?_
  rintro e w6 ⟨v6, sp6, rfl, ho6, hb6⟩
  have hc6 := hc5.trans (hb6.mono hc5.size)
  have hR : (Hd.rest fx (Sha.sum body)).length = 240 := Hd.rest_length fx _ HSS.out
  obtain ⟨A6, c6, rfl, hl6, hx6, hby6⟩ := OwnB.open_ ho6
  rw [hR] at hl6 ⊢
  clear hc5 hb6 ho6
  go_wp2_with fail
  refine TreeQ.in_ hc6 ?_
  refine wpTree_one _ rfl ?_
  go_wp2_with fail
  refine (rseal_any A6 240 c6 (Hd.rest fx (Sha.sum body)) hR.symm (by omega) ⟨by omega, hx6⟩ w6 hby6).mono ?_
  rintro e w7 ⟨v7, sp7, rfl, ho7, hb7⟩
  have hc7 := hc6.trans (hb7.mono hc6.size)
  have hby7 := Bytes.below hby hc7
  have hz6 := hc6.size
  have HHD : Hid (Sha.seal_ (Hd.rest fx (Sha.sum body)) = Hd.head fx (Sha.sum body)) := Lib.hid rfl
  rw [HHD.out] at ho7
  have hHl : (Hd.head fx (Sha.sum body)).length = 256 := Hd.head_length fx _ HSS.out
  have hz67 := hb7.size
  clear hc6 hb7 hby6 hR
  go_wp2_with fail
  refine TreeQ.in_ hc7 ?_
  refine wpTree_one _ rfl ?_
  obtain ⟨D, hD⟩ : ∃ D, D = Hd.head fx (Sha.sum body) := ⟨_, rfl⟩
  rw [← hD] at ho7 hHl
  have HD := Lib.hid hD
  have hz7 : w4.heap.size ≤ w7.heap.size := hc7.size
  clear hD
  go_wp2_with (first
    | (show wpList _ _ _ ((⟨some 26, _, _, _, _, _⟩ : Oper) :: _) _ _; refine wpList_append_bytes (o := ⟨some 26, _, _, _, _, _⟩) (by rfl) _ _ _ (by rfl) (w6.heap.size) _ Try.underlying27 u8info (_) (D) (sp7) (by rfl) (ho7) (A) (c) (body) (by first | rfl | simp) (hby7) (by first | omega | (simp; omega)) (hz67) ?_; intro v8 w8 sp8 ho8 hg8 _ _)
    | fail)
  have hc8 := hc7.grown hg8 hz7 (fun k hk => Nat.le_trans hz6 (OwnsC.lt ho7 k hk).1)
  refine TreeQ.in_ hc8 ?_
  refine wpTree_pure _ _ _ (by rfl) (by rfl) ?_
  dsimp only [List.filterMap, List.getElem?_cons_zero, List.getElem?_cons_succ]
  repeat (go_big_quiet_step (fail))
  refine wpQuiet_nil ?_
  refine wpTree_done ?_
  have HX := Lib.hid (And.intro ho8 (hB.trans (hc8.mono hB.size)))
  have hzB := hB.size
  clear ho8 hc8 hc7 hg8 ho7 hby7 hby hG hh hB
  go_wp2
  go_ret2
  refine ⟨_, sp8, rfl, ?_, HX.out.2⟩
  have h := OwnsC.base_ HX.out.1 (show w.heap.size ≤ w6.heap.size by omega)
  rw [HD.out, HFX.out] at h
  exact h
end Go.Proofs.Ytekdcjaljjlemaa

/- A message as an argument: what its cells are; what the two functions that seal messages answer, whatever the message. Condition: the body can be read. -/
namespace Go.Proofs.Ytekdcjaljjlemaa
open Go.RowKit
def i64Sh : Sh := .int .i64
def u64Sh : Sh := .int .u64
def uSh : Sh := .cons u64Sh (.cons u64Sh .nil)
def hdSh : Sh := .cons i64Sh (.cons i64Sh (.cons i64Sh (.cons i64Sh (.cons i64Sh (.cons i64Sh (.cons i64Sh (.cons i64Sh (.cons i64Sh (.cons uSh (.cons i64Sh (.cons i64Sh (.cons u64Sh (.cons i64Sh (.cons i64Sh .nil))))))))))))))
def msgSh : Sh := .cons hdSh (.cons (.slice .byte) .nil)
def listF (l : List Int) : HdF := fun i => l.getD i 0
theorem hdin (f : HdF) (a b c : Int) (e9 : f 9 = a) (e10 : f 10 = b) (e13 : f 13 = c) (h9 : IntKind.min .u64 ≤ a ∧ a ≤ IntKind.max .u64) (h10 : IntKind.min .u64 ≤ b ∧ b ≤ IntKind.max .u64) (h13 : IntKind.min .u64 ≤ c ∧ c ≤ IntKind.max .u64) : Hd.in_ f := by
  have e1 : IntKind.min .u64 = 0 := by decide
  have e2 : IntKind.max .u64 = 18446744073709551615 := by decide
  rw [e1, e2] at h9 h10 h13
  unfold Hd.in_
  rw [e9, e10, e13]
  omega
theorem hdSh_is {w : World} {x : hdSh.T} {cs : List Value} (h : Sh.Is w hdSh x cs) : ∃ f : HdF, cs = (hdc f).toList ∧ Hd.in_ f := by
  obtain ⟨c0, _, rfl, _, ⟨rfl, _⟩, c1, _, rfl, _, ⟨rfl, _⟩, c2, _, rfl, _, ⟨rfl, _⟩, c3, _, rfl, _, ⟨rfl, _⟩, c4, _, rfl, _, ⟨rfl, _⟩, c5, _, rfl, _, ⟨rfl, _⟩, c6, _, rfl, _, ⟨rfl, _⟩, c7, _, rfl, _, ⟨rfl, _⟩, c8, _, rfl, _, ⟨rfl, _⟩,
    c9, _, rfl, _, ⟨c90, _, rfl, _, ⟨rfl, h9, h9'⟩, c91, c92, rfl, _, ⟨rfl, h10, h10'⟩, e9⟩, c11, _, rfl, _, ⟨rfl, _⟩, c12, _, rfl, _, ⟨rfl, _⟩, c13, _, rfl, _, ⟨rfl, h13, h13'⟩, c14, _, rfl, _, ⟨rfl, _⟩, c15, c16, rfl, _, ⟨rfl, _⟩, e16⟩ := h
  have e9 : c92 = [] := e9
  have e16 : c16 = [] := e16
  subst e9 e16
  obtain ⟨x0, x1, x2, x3, x4, x5, x6, x7, x8, ⟨x9, x10, _⟩, x11, x12, x13, x14, x15, _⟩ := x
  refine ⟨listF [x0, x1, x2, x3, x4, x5, x6, x7, x8, x9, x10, x11, x12, x13, x14, x15], rfl, ?_⟩
  exact hdin _ x9 x10 x13 rfl rfl rfl ⟨h9, h9'⟩ ⟨h10, h10'⟩ ⟨h13, h13'⟩
theorem msgc_list (f : HdF) (v : Value) : (msgc f v).toList = (hdc f).toList ++ [v] := by rfl
theorem msgSh_is {w : World} {x : msgSh.T} {cs : List Value} (h : Sh.Is w msgSh x cs) : ∃ f A c, cs.toArray = msgc f (.slice A x.2.1.length c) ∧ Hd.in_ f ∧ x.2.1.length ≤ c ∧ c ≤ 9223372036854775807 ∧ Bytes w A x.2.1 := by
  obtain ⟨c1, _, rfl, _, h1, c2, c3, rfl, _, h2, h3⟩ := h
  obtain ⟨f, rfl, hin⟩ := hdSh_is h1
  obtain ⟨A, c, rfl, h4, h5, h6⟩ := Sh.Is.bytes h2
  have h3 : c3 = [] := h3
  subst h3
  refine ⟨f, A, c, ?_, hin, h4, by simpa [maxLen] using h5, h6⟩
  rw [List.append_nil, ← msgc_list, Array.toArray_toList]
  rfl
/-- What a message is sealed as: the error's number, the bytes. -/
def Msg.seal_ (f : HdF) (body : List UInt8) : Int × List UInt8 :=
  if 1024 < body.length then (3, []) else if Hd.ok (setF f 2 body.length) = true then (0, Hd.bytes (setF f 2 body.length) body) else (2, [])
theorem hseal_any (f : HdF) (A : Option Addr) (n c : Nat) (body : List UInt8) (w : World) (hn : n = body.length) (hby : Bytes w A body) (hc : n ≤ c ∧ c ≤ 9223372036854775807) (hin : Hd.in_ f) :
    Calls Try.prog 8 #[.agg (msgc f (.slice A n c))] w fun e w' => ∃ E : Ent, e = .returned (.tuple #[E.val, .int .i64 (Msg.seal_ f body).1]) ∧ E.Is w' ∧ (∀ g, E.blk = some g → w.heap.size ≤ g) ∧ E.n = E.l.length ∧
      E.l = (Msg.seal_ f body).2 ∧ Below w.heap.size w w' := by
  subst hn
  by_cases h1 : 1024 < body.length
  · rw [show Msg.seal_ f body = (3, []) by unfold Msg.seal_; rw [if_pos h1]]
    refine (hseal_long f A c body w h1).mono ?_
    rintro e w' ⟨rfl, hB⟩
    exact ⟨⟨none, 0, []⟩, rfl, ⟨Nat.le_refl _, by simp, .inl ⟨rfl, rfl⟩⟩, fun g h => (by cases h), rfl, rfl, hB⟩
  · cases h2 : Hd.ok (setF f 2 body.length)
    · rw [show Msg.seal_ f body = (2, []) by unfold Msg.seal_; rw [if_neg h1, if_neg (by rw [h2]; simp)]]
      refine (hseal_no f A c body w (by omega) h2).mono ?_
      rintro e w' ⟨rfl, hB⟩
      exact ⟨⟨none, 0, []⟩, rfl, ⟨Nat.le_refl _, by simp, .inl ⟨rfl, rfl⟩⟩, fun g h => (by cases h), rfl, rfl, hB⟩
    · rw [show Msg.seal_ f body = (0, Hd.bytes (setF f 2 body.length) body) by unfold Msg.seal_; rw [if_neg h1, if_pos h2]]
      refine (hseal_ok f A c body w hby hc (by omega) h2 hin).mono ?_
      rintro e w' ⟨g, rfl, hg, hb, hB⟩
      have hl := Hd.bytes_length (setF f 2 body.length) body
      refine ⟨⟨some ⟨g, 0, none⟩, 256 + body.length, Hd.bytes (setF f 2 body.length) body⟩, ?_, ⟨by simp only; omega, by simp only; omega, .inr ⟨g, _, rfl, hb⟩⟩, fun g' h => ?_, hl.symm, rfl, hB⟩
      · unfold Ent.val; simp only; rw [hl]
      · unfold Ent.blk at h; simp at h; omega
theorem rhseal_any (f : HdF) (A : Option Addr) (n c : Nat) (body : List UInt8) (w : World) (hn : n = body.length) (hby : Bytes w A body) (hc : n ≤ c ∧ c ≤ 9223372036854775807) (hin : Hd.in_ f) :
    Calls Try.prog 9 #[.agg (msgc f (.slice A n c))] w fun e w' => ∃ v sp, e = .returned (.tuple #[v, .int .i64 (Msg.seal_ f body).1]) ∧ OwnB 5 w' w.heap.size v (Msg.seal_ f body).2 sp ∧ Below w.heap.size w w' := by
  subst hn
  by_cases h1 : 1024 < body.length
  · rw [show Msg.seal_ f body = (3, []) by unfold Msg.seal_; rw [if_pos h1]]
    refine (rhseal_long f A c body w h1).mono ?_
    rintro e w' ⟨rfl, hB⟩
    exact ⟨_, [], rfl, OwnsC.nil _ _ _ _, hB⟩
  · cases h2 : Hd.ok (setF f 2 body.length)
    · rw [show Msg.seal_ f body = (2, []) by unfold Msg.seal_; rw [if_neg h1, if_neg (by rw [h2]; simp)]]
      refine (rhseal_no f A c body w (by omega) h2).mono ?_
      rintro e w' ⟨rfl, hB⟩
      exact ⟨_, [], rfl, OwnsC.nil _ _ _ _, hB⟩
    · rw [show Msg.seal_ f body = (0, Hd.bytes (setF f 2 body.length) body) by unfold Msg.seal_; rw [if_neg h1, if_pos h2]]
      refine (rhseal_ok f A c body w hby hc (by omega) h2 hin).mono ?_
      rintro e w' ⟨v, sp, rfl, ho, hB⟩
      exact ⟨v, sp, rfl, ho, hB⟩
end Go.Proofs.Ytekdcjaljjlemaa

/- What is sealed is opened as it was, and what is opened is sealed as the same bytes: the statement, as a call: it answers true and writes nothing that was there. Conditions: the bytes can be read; the numbers are what Go's types hold. -/
namespace Go.Proofs.Ytekdcjaljjlemaa
open Go.RowKit
instance {w w' : World} {e : Ent} : KeepsTo w w' (e.Is w) (e.Is w') := ⟨fun hb h => h.below hb h.lt⟩
theorem Msg.seal_cases (f : HdF) (l : List UInt8) : (Msg.seal_ f l = (0, Hd.bytes (setF f 2 l.length) l) ∧ l.length ≤ 1024 ∧ Hd.ok (setF f 2 l.length) = true) ∨ (∃ c : Int, c ≠ 0 ∧ Msg.seal_ f l = (c, [])) := by
  unfold Msg.seal_
  by_cases h1 : 1024 < l.length
  · rw [if_pos h1]; exact .inr ⟨3, by omega, rfl⟩
  · rw [if_neg h1]
    by_cases h2 : Hd.ok (setF f 2 l.length) = true
    · rw [if_pos h2]; exact .inl ⟨rfl, by omega, h2⟩
    · rw [if_neg h2]; exact .inr ⟨2, by omega, rfl⟩
theorem _root_.Go.OwnB.bytes {e : TypeId} {w : World} {base n c : Nat} {A : Option Addr} {l sp : List UInt8} (h : OwnB e w base (.slice A n c) l sp) : Bytes w A l := by
  obtain ⟨A', c', h1, _, _, hb⟩ := OwnB.open_ h
  injection h1 with h1 h2 h3
  subst h1
  exact hb
theorem _root_.Go.Ent.Is.blk_ {w : World} {e : Ent} (h : e.Is w) (hl : 0 < e.l.length) : ∃ g t, e.A = some ⟨g, 0, none⟩ ∧ Blk w g t (e.l.map u8v).toArray ∧ e.blk = some g := by
  obtain ⟨_, _, ⟨_, h2⟩ | ⟨g, t, h1, h2⟩⟩ := h
  · rw [h2] at hl; simp at hl
  · exact ⟨g, t, h1, h2, by unfold Ent.blk; rw [h1]; rfl⟩
theorem setF_self (f : HdF) (i : Nat) (v : Int) (h : f i = v) : setF f i v = f := by
  funext j; unfold setF; by_cases e : j = i
  · rw [if_pos e, e, h]
  · rw [if_neg e]
theorem Msg.seal_read (r : List UInt8) (h : (Msg.read r).1 = 0) : Msg.seal_ (Hd.parse (r.take 256)) (r.drop 256) = (0, r) := by
  obtain ⟨_, _, hok, h2, hb, _⟩ := Msg.read_ok r h
  have hle := (Hd.ok_spec hok).1.2.2.2.2.2
  rw [h2] at hle
  unfold Msg.seal_
  rw [if_neg (by omega), setF_self _ _ _ h2, if_pos hok, hb]
set_option maxRecDepth 100000 in
set_option maxHeartbeats 4000000 in
theorem hback_any (f : HdF) (A B : Option Addr) (c d : Nat) (l r : List UInt8) (hin : Hd.in_ f) (hc : l.length ≤ c ∧ c ≤ 9223372036854775807) (hd : r.length ≤ d ∧ d ≤ 9223372036854775807) (w : World) (hby : Bytes w A l) (hbb : Bytes w B r) :
    Calls Try.prog 5 #[.agg (msgc f (.slice A l.length c)), .slice B r.length d] w fun e w' => e = .returned (.bool true) ∧ Below w.heap.size w w' := by
  have hm := Blk.new w 29 (msgc f (.slice A l.length c))
  have hB := (Below.refl w.heap.size w).alloc (Nat.le_refl _) (.cells (msgc f (.slice A l.length c)) 29)
  have hby0 := hby
  have hbb0 := hbb
  replace hby := Bytes.below hby hB
  replace hbb := Bytes.below hbb hB
  go_enter Try.func5, Try.ntmps5
  go_wp2_with fail
  generalize w.alloc (.cells (msgc f (.slice A l.length c)) 29) = w1 at hm hB hby hbb ⊢
  generalize hs0 : w.heap.size = s0 at hm ⊢
  have HS0 := Lib.hid hs0
  have HIN := Lib.hid hin
  have HC := Lib.hid (And.intro hc hd)
  clear hin hc hd hs0
  refine (known04_any w1).mono ?_
  rintro e w2 ⟨rfl, hbx⟩
  (replace hm := keep hbx hm; replace hby := keep hbx hby; replace hbb := keep hbx hbb)
  replace hB := hB.trans (hbx.mono hB.size)
  clear hbx
  have d16 := hm.at_ 16 (msgc_16 f _)
  by_cases hl1 : 3000 < l.length
  · have HB := Lib.hid hB
    clear hB hm
    go_wp2
    go_ret
    exact ⟨rfl, HB.out⟩
  by_cases hl2 : 3000 < r.length
  · have HB := Lib.hid hB
    clear hB hm
    go_wp2
    go_ret
    exact ⟨rfl, HB.out⟩
  have HL := Lib.hid (show l.length ≤ 3000 ∧ r.length ≤ 3000 by omega)
  go_wp2_with (first
    | (show wpList _ _ _ ((⟨some 28, _, _, _, _, _⟩ : Oper) :: _) _ _; refine wpList_load_blk (o := ⟨some 28, _, _, _, _, _⟩) (hm) (by rfl) _ _ (by rfl) (by rfl) _ Try.underlying29 (by rfl) (sizeMsg) (msgc_size _ _) ?_)
    | fail)
  refine (hseal_any f A l.length c l w2 rfl hby HC.out.1 HIN.out).mono ?_
  have hlt2 := hm.lt
  rintro e w3 ⟨E, rfl, hE, hEg, hEn, hEl, hbx⟩
  (replace hm := keep hbx hm; replace hby := keep hbx hby; replace hbb := keep hbx hbb; replace hB := hB.trans (hbx.mono hB.size))
  clear hbx
  have d16 := hm.at_ 16 (msgc_16 f _)
  rcases Msg.seal_cases f l with ⟨hs, hl3, hok⟩ | ⟨co, hco, hs⟩
  · rw [hs] at hEl ⊢
    have HSX := Lib.hid hs
    clear hs
    dsimp only at hEl ⊢
    obtain ⟨A3, n3, l3⟩ := E
    dsimp only at hEn hEl
    subst hEl
    have hin2 := setF_in f l.length HIN.out
    obtain ⟨hsame, hread⟩ := Msg.read_bytes (setF f 2 l.length) l hok hin2 (by unfold setF; rw [if_pos rfl])
    have hbl := Hd.bytes_length (setF f 2 l.length) l
    have hhead : Hd.read ((Hd.bytes (setF f 2 l.length) l).take 256) = (0, Hd.parse ((Hd.bytes (setF f 2 l.length) l).take 256)) := by
      have h := hread
      unfold Msg.read at h
      rw [if_neg (by omega)] at h
      rcases Hd.read_cases ((Hd.bytes (setF f 2 l.length) l).take 256) with (hx | hx) | ⟨hx, -⟩
      · rw [if_pos (by rw [hx]; simp), hx] at h; simp at h
      · rw [if_pos (by rw [hx]; simp), hx] at h; simp at h
      · exact hx
    have hfx : msgc (setF f 2 l.length) (.slice A l.length c) = (msgc f (.slice A l.length c)).setIfInBounds 2 (.int .i64 l.length) := (msgc_set _ _ _).symm
    have HFX := Lib.hid hfx
    generalize setF f 2 l.length = fx at *
    generalize hX : Hd.bytes fx l = X at *
    dsimp only [Ent.val]
    rw [hbl] at hEn ⊢
    subst hEn
    have HBL := Lib.hid hbl
    generalize Hd.parse (X.take 256) = F at *
    have HH := Lib.hid (And.intro hsame hhead)
    have HFL := Lib.hid (show F = F from rfl)
    obtain ⟨g3, t3, e3, hb3, e3b⟩ := Ent.Is.blk_ hE (by dsimp only; omega)
    dsimp only at e3 hb3
    subst e3
    have hge3 := hEg _ e3b
    have hl3' := hb3.lt
    clear hbl hX hok hin2 hfx hsame hhead hE e3b hEg
    go_wp2_with fail
    refine (hopen_any (some ⟨g3, 0, none⟩) (256 + l.length) (256 + l.length) X HBL.out.symm (Nat.le_refl _) ⟨by omega, by omega⟩ w3 hb3.bytes).mono ?_
    rw [hread]
    rintro e w4 ⟨v4, rfl, ⟨sp4, ho4⟩, hbx⟩
    (replace hm := keep hbx hm; replace hby := keep hbx hby; replace hbb := keep hbx hbb; replace hb3 := keep hbx hb3; replace hB := hB.trans (hbx.mono hB.size))
    clear hbx hread
    obtain ⟨A4, c4, rfl, -⟩ := OwnB.open_ ho4
    have hlt4 := hm.lt
    have hge4 : s0 < w3.heap.size := by omega
    clear d16
    dsimp only at ho4 ⊢
    go_wp2_with (first
      | (show wpList _ _ _ ((⟨none, _, _, _, _, _⟩ : Oper) :: _) _ _; refine wpList_store_blk (o := ⟨none, _, _, _, _, _⟩) ((Blk.new w4 29 #[.int .i64 0, .int .i64 0, .int .i64 0, .int .i64 0, .int .i64 0, .int .i64 0, .int .i64 0, .int .i64 0, .int .i64 0, .int .u64 0, .int .u64 0, .int .i64 0, .int .i64 0, .int .u64 0, .int .i64 0, .int .i64 0, .slice none 0 0])) (by rfl) _ _ _ (by rfl) (by rfl) (msgc F (.slice A4 l.length c4)) (by rfl) (sizeMsg) (by rfl) (msgc_size _ _) (msgc_one _ _ rfl) ?_; intro w5 hy hu; have hbx := ((Below.refl w4.heap.size w4).alloc (Nat.le_refl _) (.cells #[.int .i64 0, .int .i64 0, .int .i64 0, .int .i64 0, .int .i64 0, .int .i64 0, .int .i64 0, .int .i64 0, .int .i64 0, .int .u64 0, .int .u64 0, .int .i64 0, .int .i64 0, .int .u64 0, .int .i64 0, .int .i64 0, .slice none 0 0] 29)).upd hu (Nat.le_refl _); (replace hm := keep hbx hm; replace hby := keep hbx hby; replace hbb := keep hbx hbb; replace hb3 := keep hbx hb3; replace ho4 := keep hbx ho4; replace hB := hB.trans (hbx.mono hB.size)); clear hbx hu; have d16 := hm.at_ 16 (msgc_16 f _); have f2 := hm.frozen 2; have d2 := hm.at_ 2 (msgc_at2 f _); have HSET := Lib.hid (And.intro ((hm.set_ 2 (.int .i64 (l.length : Nat))).sub HFX.out.symm) (And.intro (hy.off (c := s0) (i := 2) (by omega) (.int .i64 (l.length : Nat))) (And.intro (hb3.off (c := s0) (i := 2) (by omega) (.int .i64 (l.length : Nat))) (And.intro (OwnB.upd ho4 ((Upd.refl _ _).set 2 (.int .i64 (l.length : Nat))) (fun e => by have h : w3.heap.size ≤ s0 := (OwnsC.lt ho4 _ e).1; omega)) (hB.set_ (c := s0) (i := 2) (by have := HS0.out; omega) (.int .i64 (l.length : Nat))))))); have fz := hy.lt)
      | (show wpList _ _ _ ((⟨some 47, _, _, _, _, _⟩ : Oper) :: _) _ _; generalize World.setCell w5 _ _ = w6 at HSET ⊢; clear hm hy hb3 ho4 hB d16 f2 d2 hby hbb; obtain ⟨hm, hy, hb3, ho4, hB⟩ := HSET.out; (show wpList _ _ _ ((⟨some 47, _, _, _, _, _⟩ : Oper) :: _) _ _; refine wpList_want (by rfl) ?_; refine wpList_load_blk (o := ⟨some 47, _, _, _, _, _⟩) (hy) (by rfl) _ _ (by rfl) (by rfl) _ Try.underlying29 (by rfl) (sizeMsg) (msgc_size _ _) ?_))
      | (show wpList _ _ _ ((⟨some 48, _, _, _, _, _⟩ : Oper) :: _) _ _; refine wpList_want (by rfl) ?_; refine wpList_load_blk (o := ⟨some 48, _, _, _, _, _⟩) (hm) (by rfl) _ _ (by rfl) (by rfl) _ Try.underlying29 (by rfl) (sizeMsg) (msgc_size _ _) ?_)
      | fail)
    clear HSET
    have hby6 := Bytes.below hby0 hB
    have hb4 := OwnB.bytes ho4
    refine (sameMessage_any F fx A4 A l.length l.length c4 c l l rfl rfl w6 hb4 hby6).mono ?_
    rintro e w7 ⟨rfl, hbx⟩
    (replace hm := keep hbx hm; replace hb3 := keep hbx hb3; replace hB := hB.trans (hbx.mono hB.size))
    clear hbx hy ho4 hb4 hby6
    rw [(Hd.beq_same F fx).2 HH.out.1, decide_eq_true rfl]
    have d16 := hm.at_ 16 (msgc_16 fx _)
    go_wp2_with fail
    refine (hhead_any (some ⟨g3, 0, none⟩) 256 (256 + l.length) (X.take 256) (by rw [List.length_take, HBL.out]; omega) (by omega) (by omega) w7 (hb3.bytes.take 256)).mono ?_
    rw [HH.out.2]
    rintro e w8 ⟨rfl, hbx⟩
    (replace hm := keep hbx hm; replace hB := hB.trans (hbx.mono hB.size))
    clear hbx hb3 d16
    dsimp only
    go_wp2_with (first
      | (show wpList _ _ _ ((⟨none, _, _, _, _, _⟩ : Oper) :: _) _ _; refine wpList_store_blk (o := ⟨none, _, _, _, _, _⟩) ((Blk.new w8 26 #[.int .i64 0, .int .i64 0, .int .i64 0, .int .i64 0, .int .i64 0, .int .i64 0, .int .i64 0, .int .i64 0, .int .i64 0, .int .u64 0, .int .u64 0, .int .i64 0, .int .i64 0, .int .u64 0, .int .i64 0, .int .i64 0])) (by rfl) _ _ _ (by rfl) (by rfl) (hdc F) (by rfl) (sizeHd) (by rfl) (hdc_size _) (hdc_one _) ?_; intro w9 hh hu; have hbx := ((Below.refl w8.heap.size w8).alloc (Nat.le_refl _) (.cells #[.int .i64 0, .int .i64 0, .int .i64 0, .int .i64 0, .int .i64 0, .int .i64 0, .int .i64 0, .int .i64 0, .int .i64 0, .int .u64 0, .int .u64 0, .int .i64 0, .int .i64 0, .int .u64 0, .int .i64 0, .int .i64 0] 26)).upd hu (Nat.le_refl _); (replace hm := keep hbx hm; replace hB := hB.trans (hbx.mono hB.size)); clear hbx hu; have HR := Lib.hid (hd_range hm))
      | (show wpList _ _ _ ((⟨some 70, _, _, _, _, _⟩ : Oper) :: _) _ _; refine wpList_want (by rfl) ?_; refine wpList_load_blk (o := ⟨some 70, _, _, _, _, _⟩) (hh) (by rfl) _ _ (by rfl) (by rfl) _ Try.underlying26 (by rfl) (sizeHd) (hdc_size _) ?_)
      | (show wpList _ _ _ ((⟨some 72, _, _, _, _, _⟩ : Oper) :: _) _ _; refine wpList_want (by rfl) ?_; refine wpList_load_mid (o := ⟨some 72, _, _, _, _, _⟩) HR.out (by rfl) _ _ (by rfl) (by rfl) _ Try.underlying26 (by rfl) sizeHd (by rw [Array.length_toList, hdc_size]) ?_; rw [Array.toArray_toList])
      | (show wpList _ _ _ ((⟨some 73, _, _, _, _, _⟩ : Oper) :: _) _ _; refine wpList_want (by rfl) ?_; refine wpList_run (o := ⟨some 73, _, _, _, _, _⟩) _ (by rfl) (exec_neq_hd _ _ _ _ (by rfl) F fx (by rfl) (by rfl)) ?_; rw [(Hd.beq_same F fx).2 HH.out.1])
      | fail)
    clear hh HR hm
    generalize w9 = wz at hB ⊢
    clear d16 HFX HSX HBL HH HFL hl3 hge3 hl3' hlt4 hge4 fz
    have hbz := Bytes.below hbb0 hB
    refine (hopen_any B r.length d r rfl HC.out.2.1 ⟨by have := HL.out; omega, HC.out.2.2⟩ wz hbz).mono ?_
    rintro e w4 ⟨v4, rfl, ⟨sp4, ho4⟩, hbx⟩
    (replace hB := hB.trans (hbx.mono hB.size))
    clear hbx hbz
    by_cases hr : (Msg.read r).1 = 0
    · obtain ⟨h256, hrd, hok2, hp2, hby2, -, -⟩ := Msg.read_ok r hr
      have hseal := Msg.seal_read r hr
      rw [hrd] at ho4 ⊢
      obtain ⟨A4, c4, rfl, hc4, hd4, -⟩ := OwnB.open_ ho4
      dsimp only at ho4 hc4 ⊢
      have hin4 := Hd.parse_in (r.take 256)
      have HR := Lib.hid (And.intro hseal (And.intro hin4 (And.intro hc4 hd4)))
      clear h256 hrd hok2 hp2 hby2 hr hseal hin4 hc4 hd4
      generalize Hd.parse (r.take 256) = G at *
      obtain ⟨D, hD⟩ : ∃ D, D = r.drop 256 := ⟨_, rfl⟩
      rw [← hD] at ho4 HR ⊢
      clear hD
      go_wp2_with (first
        | (show wpList _ _ _ ((⟨none, _, _, _, _, _⟩ : Oper) :: _) _ _; refine wpList_store_blk (o := ⟨none, _, _, _, _, _⟩) ((Blk.new w4 29 #[.int .i64 0, .int .i64 0, .int .i64 0, .int .i64 0, .int .i64 0, .int .i64 0, .int .i64 0, .int .i64 0, .int .i64 0, .int .u64 0, .int .u64 0, .int .i64 0, .int .i64 0, .int .u64 0, .int .i64 0, .int .i64 0, .slice none 0 0])) (by rfl) _ _ _ (by rfl) (by rfl) (msgc G (.slice A4 D.length c4)) (by rfl) (sizeMsg) (by rfl) (msgc_size _ _) (msgc_one _ _ rfl) ?_; intro w5 hy hu; have hbx := ((Below.refl w4.heap.size w4).alloc (Nat.le_refl _) (.cells #[.int .i64 0, .int .i64 0, .int .i64 0, .int .i64 0, .int .i64 0, .int .i64 0, .int .i64 0, .int .i64 0, .int .i64 0, .int .u64 0, .int .u64 0, .int .i64 0, .int .i64 0, .int .u64 0, .int .i64 0, .int .i64 0, .slice none 0 0] 29)).upd hu (Nat.le_refl _); (replace ho4 := keep hbx ho4; replace hB := hB.trans (hbx.mono hB.size)); clear hbx hu)
        | (show wpList _ _ _ ((⟨some 84, _, _, _, _, _⟩ : Oper) :: _) _ _; refine wpList_load_blk (o := ⟨some 84, _, _, _, _, _⟩) (hy) (by rfl) _ _ (by rfl) (by rfl) _ Try.underlying29 (by rfl) (sizeMsg) (msgc_size _ _) ?_)
        | fail)
      refine (hseal_any G A4 D.length c4 D w5 rfl (OwnB.bytes ho4) HR.out.2.2 HR.out.2.1).mono ?_
      rw [HR.out.1]
      rintro e w6 ⟨E6, rfl, hE6, -, hn6, hl6, hbx⟩
      (replace hB := hB.trans (hbx.mono hB.size))
      clear hbx ho4 hy
      have hb6 := hE6.bytes
      obtain ⟨A6, n6, l6⟩ := E6
      dsimp only at hn6 hl6 hb6
      subst hn6 hl6
      dsimp only [Ent.val]
      go_wp2_with fail
      refine (sameBytes_any A6 B l6.length l6.length l6.length d l6 l6 rfl rfl w6 hb6 (Bytes.below hbb0 hB)).mono ?_
      rintro e w7 ⟨rfl, hbx⟩
      rw [decide_eq_true rfl]
      have HB := Lib.hid (show Below w.heap.size w w7 by rw [hbx]; exact hB)
      clear hbx hB hb6 hE6
      go_wp2
      go_ret
      exact ⟨by simp, HB.out⟩
    · have hcr : ((Msg.read r).1 != 0) = true := by rw [bne_iff_ne]; exact hr
      obtain ⟨A4, c4, rfl, hc4, hd4, -⟩ := OwnB.open_ ho4
      generalize (Msg.read r).1 = co at hcr ⊢
      generalize (Msg.read r).2.1 = G at *
      generalize (Msg.read r).2.2.length = n4 at *
      clear hr hc4 hd4 ho4
      go_wp2_with (first
        | (show wpList _ _ _ ((⟨none, _, _, _, _, _⟩ : Oper) :: _) _ _; refine wpList_store_blk (o := ⟨none, _, _, _, _, _⟩) ((Blk.new w4 29 #[.int .i64 0, .int .i64 0, .int .i64 0, .int .i64 0, .int .i64 0, .int .i64 0, .int .i64 0, .int .i64 0, .int .i64 0, .int .u64 0, .int .u64 0, .int .i64 0, .int .i64 0, .int .u64 0, .int .i64 0, .int .i64 0, .slice none 0 0])) (by rfl) _ _ _ (by rfl) (by rfl) (msgc G (.slice A4 n4 c4)) (by rfl) (sizeMsg) (by rfl) (msgc_size _ _) (msgc_one _ _ rfl) ?_; intro w5 hy hu; have hbx := ((Below.refl w4.heap.size w4).alloc (Nat.le_refl _) (.cells #[.int .i64 0, .int .i64 0, .int .i64 0, .int .i64 0, .int .i64 0, .int .i64 0, .int .i64 0, .int .i64 0, .int .i64 0, .int .u64 0, .int .u64 0, .int .i64 0, .int .i64 0, .int .u64 0, .int .i64 0, .int .i64 0, .slice none 0 0] 29)).upd hu (Nat.le_refl _); (replace hB := hB.trans (hbx.mono hB.size)); clear hbx hu)
        | fail)
      have HB := Lib.hid hB
      clear hB hy
      go_wp2
      go_ret
      exact ⟨rfl, HB.out⟩
  · rw [hs] at hEl ⊢
    have hc0 : (co == 0) = false := by rw [beq_eq_false_iff_ne]; exact hco
    dsimp only
    clear hE hEg hEn hEl hs hco hm hby hbb
    go_wp2_with fail
    clear d16 hc0
    generalize w3 = wz at hB ⊢
    have hbz := Bytes.below hbb0 hB
    refine (hopen_any B r.length d r rfl HC.out.2.1 ⟨by have := HL.out; omega, HC.out.2.2⟩ wz hbz).mono ?_
    rintro e w4 ⟨v4, rfl, ⟨sp4, ho4⟩, hbx⟩
    (replace hB := hB.trans (hbx.mono hB.size))
    clear hbx hbz
    by_cases hr : (Msg.read r).1 = 0
    · obtain ⟨h256, hrd, hok2, hp2, hby2, -, -⟩ := Msg.read_ok r hr
      have hseal := Msg.seal_read r hr
      rw [hrd] at ho4 ⊢
      obtain ⟨A4, c4, rfl, hc4, hd4, -⟩ := OwnB.open_ ho4
      dsimp only at ho4 hc4 ⊢
      have hin4 := Hd.parse_in (r.take 256)
      have HR := Lib.hid (And.intro hseal (And.intro hin4 (And.intro hc4 hd4)))
      clear h256 hrd hok2 hp2 hby2 hr hseal hin4 hc4 hd4
      generalize Hd.parse (r.take 256) = G at *
      obtain ⟨D, hD⟩ : ∃ D, D = r.drop 256 := ⟨_, rfl⟩
      rw [← hD] at ho4 HR ⊢
      clear hD
      go_wp2_with (first
        | (show wpList _ _ _ ((⟨none, _, _, _, _, _⟩ : Oper) :: _) _ _; refine wpList_store_blk (o := ⟨none, _, _, _, _, _⟩) ((Blk.new w4 29 #[.int .i64 0, .int .i64 0, .int .i64 0, .int .i64 0, .int .i64 0, .int .i64 0, .int .i64 0, .int .i64 0, .int .i64 0, .int .u64 0, .int .u64 0, .int .i64 0, .int .i64 0, .int .u64 0, .int .i64 0, .int .i64 0, .slice none 0 0])) (by rfl) _ _ _ (by rfl) (by rfl) (msgc G (.slice A4 D.length c4)) (by rfl) (sizeMsg) (by rfl) (msgc_size _ _) (msgc_one _ _ rfl) ?_; intro w5 hy hu; have hbx := ((Below.refl w4.heap.size w4).alloc (Nat.le_refl _) (.cells #[.int .i64 0, .int .i64 0, .int .i64 0, .int .i64 0, .int .i64 0, .int .i64 0, .int .i64 0, .int .i64 0, .int .i64 0, .int .u64 0, .int .u64 0, .int .i64 0, .int .i64 0, .int .u64 0, .int .i64 0, .int .i64 0, .slice none 0 0] 29)).upd hu (Nat.le_refl _); (replace ho4 := keep hbx ho4; replace hB := hB.trans (hbx.mono hB.size)); clear hbx hu)
        | (show wpList _ _ _ ((⟨some 84, _, _, _, _, _⟩ : Oper) :: _) _ _; refine wpList_load_blk (o := ⟨some 84, _, _, _, _, _⟩) (hy) (by rfl) _ _ (by rfl) (by rfl) _ Try.underlying29 (by rfl) (sizeMsg) (msgc_size _ _) ?_)
        | fail)
      refine (hseal_any G A4 D.length c4 D w5 rfl (OwnB.bytes ho4) HR.out.2.2 HR.out.2.1).mono ?_
      rw [HR.out.1]
      rintro e w6 ⟨E6, rfl, hE6, -, hn6, hl6, hbx⟩
      (replace hB := hB.trans (hbx.mono hB.size))
      clear hbx ho4 hy
      have hb6 := hE6.bytes
      obtain ⟨A6, n6, l6⟩ := E6
      dsimp only at hn6 hl6 hb6
      subst hn6 hl6
      dsimp only [Ent.val]
      go_wp2_with fail
      refine (sameBytes_any A6 B l6.length l6.length l6.length d l6 l6 rfl rfl w6 hb6 (Bytes.below hbb0 hB)).mono ?_
      rintro e w7 ⟨rfl, hbx⟩
      rw [decide_eq_true rfl]
      have HB := Lib.hid (show Below w.heap.size w w7 by rw [hbx]; exact hB)
      clear hbx hB hb6 hE6
      go_wp2
      go_ret
      exact ⟨by simp, HB.out⟩
    · have hcr : ((Msg.read r).1 != 0) = true := by rw [bne_iff_ne]; exact hr
      obtain ⟨A4, c4, rfl, hc4, hd4, -⟩ := OwnB.open_ ho4
      generalize (Msg.read r).1 = co at hcr ⊢
      generalize (Msg.read r).2.1 = G at *
      generalize (Msg.read r).2.2.length = n4 at *
      clear hr hc4 hd4 ho4
      go_wp2_with (first
        | (show wpList _ _ _ ((⟨none, _, _, _, _, _⟩ : Oper) :: _) _ _; refine wpList_store_blk (o := ⟨none, _, _, _, _, _⟩) ((Blk.new w4 29 #[.int .i64 0, .int .i64 0, .int .i64 0, .int .i64 0, .int .i64 0, .int .i64 0, .int .i64 0, .int .i64 0, .int .i64 0, .int .u64 0, .int .u64 0, .int .i64 0, .int .i64 0, .int .u64 0, .int .i64 0, .int .i64 0, .slice none 0 0])) (by rfl) _ _ _ (by rfl) (by rfl) (msgc G (.slice A4 n4 c4)) (by rfl) (sizeMsg) (by rfl) (msgc_size _ _) (msgc_one _ _ rfl) ?_; intro w5 hy hu; have hbx := ((Below.refl w4.heap.size w4).alloc (Nat.le_refl _) (.cells #[.int .i64 0, .int .i64 0, .int .i64 0, .int .i64 0, .int .i64 0, .int .i64 0, .int .i64 0, .int .i64 0, .int .i64 0, .int .u64 0, .int .u64 0, .int .i64 0, .int .i64 0, .int .u64 0, .int .i64 0, .int .i64 0, .slice none 0 0] 29)).upd hu (Nat.le_refl _); (replace hB := hB.trans (hbx.mono hB.size)); clear hbx hu)
        | fail)
      have HB := Lib.hid hB
      clear hB hy
      go_wp2
      go_ret
      exact ⟨rfl, HB.out⟩
end Go.Proofs.Ytekdcjaljjlemaa
