/- The chapter's examples, as the closed statement asks: it answers true, and writes nothing that was there. No condition. -/
import Derived.Test.YtfpcldnefpmgcaaSums
namespace Go
open Go.RowKit
theorem OwnB.at_ {e : TypeId} {w : World} {base : Nat} {v : Value} {l sp : List UInt8} (h : OwnB e w base v l sp) (hl : 0 < l.length) : ∃ g cap, v = .slice (some ⟨g, 0, none⟩) l.length cap ∧ base ≤ g ∧ Blk w g e ((l ++ sp).map u8v).toArray ∧ l.length ≤ cap ∧ cap ≤ maxLen ∧ sp.length = cap - l.length := by
  rcases h with ⟨_, h0, _, _⟩ | ⟨g, cap, rfl, hb, hg, hc, hm, _, hs⟩
  · omega
  · exact ⟨g, cap, rfl, hb, by simpa using hg, hc, hm, by simpa using hs⟩
end Go
namespace Go.Proofs.Ytfpcldnefpmgcaa
open Go.RowKit
theorem Sha.opened_seal (l : List UInt8) : Sha.opened (Sha.seal_ l) = (0, l) := by
  unfold Sha.opened Sha.seal_
  have h := Sha.sum_length l
  rw [if_neg (by simp; omega)]
  have e1 : (Sha.sum l ++ l).drop 16 = l := by rw [← h, List.drop_left]
  have e2 : (Sha.sum l ++ l).take 16 = Sha.sum l := by rw [← h, List.take_left]
  rw [e1, e2, if_pos rfl]
def abcSeal : List UInt8 := [0xba, 0x78, 0x16, 0xbf, 0x8f, 0x01, 0xcf, 0xea, 0x41, 0x41, 0x40, 0xde, 0x5d, 0xae, 0x22, 0x23, 97, 98, 99]
def abcBad : List UInt8 := [0xba, 0x78, 0x16, 0xbf, 0x8f, 0x01, 0xcf, 0xea, 0x41, 0x41, 0x40, 0xde, 0x5d, 0xae, 0x22, 0x23, 97, 98, 98]
theorem seal_abc : Sha.seal_ [97, 98, 99] = abcSeal := by unfold Sha.seal_; rw [Sha.sum_abc]; rfl
theorem opened_bad : Sha.opened abcBad = (12, []) := by decide +kernel
theorem opened_short : Sha.opened (List.replicate 15 0) = (4, []) := by decide +kernel
set_option maxHeartbeats 1000000 in
set_option maxRecDepth 100000 in
theorem known_any (w : World) : Calls Try.prog 5 #[] w fun e w' => e = .returned (.bool true) ∧ Below w.heap.size w w' := by
  go_enter Try.func5, Try.ntmps5
  go_wp2_with (first
    | (show wpList _ _ _ ((⟨some 9, _, _, _, _, _⟩ : Oper) :: _) _ _; refine wpList_bytes_const (o := ⟨some 9, _, _, _, _, _⟩) (by rfl) _ _ _ (by rfl) Try.underlying22 Try.underlying5 [97, 98, 99] _ (by rfl) 3 (by rfl) ?_; intro w1 hb1 hbel1 _)
    | fail)
  refine (seal_any _ 3 3 [97, 98, 99] rfl (by simp) (by simp) w1 hb1).mono ?_
  rintro e w2 ⟨v, sp, rfl, ho, hb2⟩
  replace hbel1 := hbel1.trans (hb2.mono hbel1.size)
  go_wp2_with fail
  refine (awake_any w2).mono ?_
  rintro e w3 ⟨rfl, hb3⟩
  rw [seal_abc] at ho
  obtain ⟨g, cap, rfl, hge, hg, hc1, hc2, hspl⟩ := OwnB.at_ ho (by simp [abcSeal])
  have hg3 := hg.below hb3 hg.lt
  replace hbel1 := hbel1.trans (hb3.mono hbel1.size)
  have hge0 : w.heap.size ≤ g := by omega
  clear ho hb2 hg hb3 hb1
  rw [show abcSeal.length = 19 from rfl] at hc1 ⊢
  go_wp2_with fail
  refine (open_any (some ⟨g, 0, none⟩) 19 cap abcSeal rfl (by simpa [abcSeal] using hc1) ⟨by simp [abcSeal], hc2⟩ w3 (by have := hg3.bytes.take 19; exact this)).mono ?_
  rintro e w4 ⟨v4, rfl, ⟨sp4, ho4⟩, hb4⟩
  have hop : Sha.opened abcSeal = (0, [97, 98, 99]) := by rw [← seal_abc, Sha.opened_seal]
  rw [hop] at ho4 ⊢
  have hg4 := hg3.below hb4 hg3.lt
  replace hbel1 := hbel1.trans (hb4.mono hbel1.size)
  obtain ⟨g4, cap4, rfl, hge4, hg4b, hc41, hc42, _⟩ := OwnB.at_ ho4 (by simp)
  have hlt3 := hg3.lt
  clear hg3 hb4 ho4
  have d18 : w4.cell? ⟨g, 18, none⟩ = some (.int .u8 99) := (hg4.cell 18).trans (by rfl)
  have f18 := hg4.frozen 18
  have hx : bits BinOp.xor IntKind.u8 99 1 = 98 := by rfl
  have hg5 := (hg4.set_ 18 (.int .u8 98)).sub (show _ = ((abcBad ++ sp).map u8v).toArray by rfl)
  have hg45 := hg4b.off (show g4 ≠ g by omega) (i := 18) (.int .u8 98)
  have hb5 : Below w.heap.size w (w4.setCell ⟨g, 18, none⟩ (.int .u8 98)) := hbel1.set_ hge0 _
  clear hg4 hg4b hbel1
  go_wp2_with fail
  generalize w4.setCell ⟨g, 18, none⟩ (.int .u8 98) = w5 at hg5 hg45 hb5 ⊢
  refine (open_any (some ⟨g, 0, none⟩) 19 cap abcBad rfl hc1 ⟨by simp [abcBad], hc2⟩ w5 (by have := hg5.bytes.take 19; exact this)).mono ?_
  rintro e w6 ⟨v6, rfl, ⟨sp6, ho6⟩, hb6⟩
  rw [opened_bad] at ho6 ⊢
  have hg46 := hg45.below hb6 hg45.lt
  replace hb6 := hb5.trans (hb6.mono hb5.size)
  clear hg5 hg45 hb5 ho6 d18 f18
  go_wp2_with (first
    | (show wpList _ _ _ ((⟨some 35, _, _, _, _, _⟩ : Oper) :: _) _ _; refine wpList_make_bytes (o := ⟨some 35, _, _, _, _, _⟩) _ (by rfl) _ _ _ (by rfl) _ Try.underlying22 u8info .i64 .i64 _ _ 15 15 (by rfl) (by rfl) (by rfl) (by rfl) (Nat.le_refl _) (by omega) ?_; intro w7 h7 hb7 hs7; have hg47 := hg46.below hb7 hg46.lt; replace hb7 := hb6.trans (hb7.mono hb6.size); have hl7 := h7.bytes; clear h7 hg46 hb6)
    | fail)
  refine (open_any (some ⟨w6.heap.size, 0, none⟩) 15 15 (List.replicate 15 0) rfl (by simp) (by simp) w7 hl7).mono ?_
  rintro e w8 ⟨v8, rfl, ⟨sp8, ho8⟩, hb8⟩
  rw [opened_short] at ho8 ⊢
  have hg48 := hg47.below hb8 hg47.lt
  replace hb8 := hb7.trans (hb8.mono hb7.size)
  have hl8 : Bytes w8 (some ⟨g4, 0, none⟩) [97, 98, 99] := by have := hg48.bytes.take 3; exact this
  clear ho8 hg48 hb7 hl7 hg47
  have hq : (str [97, 98, 99]).toList = [97, 98, 99] := by rw [ByteArray.toList_eq]; rfl
  go_wp2_with (first
    | (show wpList _ _ _ ((⟨some 40, _, _, _, _, _⟩ : Oper) :: _) _ _; refine wpList_convert_str (o := ⟨some 40, _, _, _, _, _⟩) (by rfl) 22 9 5 _ (by rfl) Try.underlying22 Try.underlying5 Try.underlying9 (some ⟨g4, 0, none⟩) 3 cap4 [97, 98, 99] (by rfl) rfl hl8 ?_)
    | (show wpList _ _ _ ((⟨some 56, _, _, _, _, some _⟩ : Oper) :: _) _ _; refine wpList_want (by rfl) ?_; refine wpList_bytes_const (o := ⟨some 56, _, _, _, _, _⟩) (by rfl) _ _ _ (by rfl) Try.underlying22 Try.underlying5 [97, 98, 99] _ (by rfl) 3 (by rfl) ?_; intro w9 hl9 hb9 _; replace hb9 := hb8.trans (hb9.mono hb8.size))
    | fail)
  refine (ofABC_any w9).mono ?_
  rintro e w10 ⟨rfl, hb10⟩
  have hl10 := Bytes.below hl9 hb10
  replace hb10 := hb9.trans (hb10.mono hb9.size)
  clear hl9 hb9 hl8
  go_wp2_with fail
  refine (right_seal_any (some ⟨w8.heap.size, 0, none⟩) 3 3 [97, 98, 99] abcSum rfl (by simp) (by simp) rfl w10 hl10).mono ?_
  rintro e w11 ⟨rfl, hb11⟩
  replace hb11 := hb10.trans (hb11.mono hb10.size)
  rw [decide_eq_true (show Sha.sum [97, 98, 99] = abcSum from Sha.sum_abc)]
  clear hl10 hb10
  go_wp2_with (first
    | (show wpList _ _ _ ((⟨some 62, _, _, _, _, some _⟩ : Oper) :: _) _ _; refine wpList_want (by rfl) ?_; refine wpList_bytes_const (o := ⟨some 62, _, _, _, _, _⟩) (by rfl) _ _ _ (by rfl) Try.underlying22 Try.underlying5 [97, 98, 99] _ (by rfl) 3 (by rfl) ?_; intro w12 hl12 hb12 _; replace hb12 := hb11.trans (hb12.mono hb11.size))
    | fail)
  refine (ofNone_any w12).mono ?_
  rintro e w13 ⟨rfl, hb13⟩
  have hl13 := Bytes.below hl12 hb13
  replace hb13 := hb12.trans (hb13.mono hb12.size)
  clear hl12 hb12
  go_wp2_with fail
  refine (right_seal_any (some ⟨w11.heap.size, 0, none⟩) 3 3 [97, 98, 99] noneSum rfl (by simp) (by simp) rfl w13 hl13).mono ?_
  rintro e w14 ⟨rfl, hb14⟩
  replace hb14 := hb13.trans (hb14.mono hb13.size)
  rw [decide_eq_false (show ¬ Sha.sum [97, 98, 99] = noneSum by rw [Sha.sum_abc]; decide)]
  go_wp2_with fail
  go_ret
  exact ⟨by simp, hb14⟩
end Go.Proofs.Ytfpcldnefpmgcaa
