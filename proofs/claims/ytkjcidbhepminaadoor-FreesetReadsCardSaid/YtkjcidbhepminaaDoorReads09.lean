/- Which bytes are a set's, as the statement asks: it answers true and writes nothing that was there. Conditions: the argument can be read; the table of Go's library lies as it was laid. -/
import Derived.Test.YtkjcidbhepminaaDoorWake09
import Derived.Test.YtkjcidbhepminaaDoorOver
namespace Go.Proofs.YtkjcidbhepminaaDoor
open Go.RowKit
theorem marks_length (n : Nat) : (marks n).length = 3 := rfl
set_option maxRecDepth 100000 in
set_option maxHeartbeats 2000000 in
theorem reads09_any (A : Option Addr) (c : Nat) (b : List UInt8) (w : World) (hb : Bytes w A b) (hT : Tab w) :
    Calls Tryd.prog 4 #[.slice A b.length c] w fun e w' => e = .returned (.bool true) ∧ Below w.heap.size w w' := by
  by_cases h300 : 300 < b.length
  · have h3 : (300 : Int) < b.length := by omega
    go_enter Tryd.func4, Tryd.ntmps4
    go_wp2
    go_ret
    exact ⟨rfl, Below.refl _ _⟩
  have h3 : (b.length : Int) ≤ 300 := by omega
  have hlen : b.length ≤ 300 := by omega
  have hT0 := hT.1
  clear h300
  go_enter Tryd.func4, Tryd.ntmps4
  go_wp2_with fail
  refine (lentBytes_any A b.length c b rfl (by omega) w hb).mono ?_
  rintro e w1 ⟨rfl, h1, hB1⟩
  have hin : Bytes w1 (some ⟨w.heap.size, 0, none⟩) b := by
    have := h1.bytes.take b.length; rwa [List.take_left] at this
  have hlt1 := h1.lt
  go_wp2_with fail
  refine (read_any (some ⟨w.heap.size, 0, none⟩) (b.length + 3) b w1 hin (by omega)).mono ?_
  intro e w2 hr
  unfold ReadSet at hr
  by_cases hok : rdOk b = true
  · rw [if_pos hok] at hr
    obtain ⟨g, hg, rfl, hs2, hB2⟩ := hr
    have hB12 := hB1.trans (hB2.mono hB1.size)
    have h2 := h1.below hB2 hlt1
    have hb2 := Bytes.below hb hB12
    have hso := (rdOk_iff b).1 hok
    have hsok := rd_ok hso.1 hso.2.1
    have hsl : 0 < (rd b).length := by rw [rd_length]; exact ((rdPre_iff b).1 hso.1).2.1
    clear hB1 hB2 h1 hin
    go_wp2_with fail
    refine (rread_any A c b w2 hb2 (by omega)).mono ?_
    intro e w3 hr
    unfold RReadSet at hr
    rw [if_pos hok] at hr
    obtain ⟨r, q, hr1, hq1, rfl, hR3, hB3⟩ := hr
    have hB13 := hB12.trans (hB3.mono hB12.size)
    have hs3 := hs2.below hB3 hs2.lt
    have h3' := h2.below hB3 h2.lt
    have hb3 := Bytes.below hb hB13
    have hne1 : g ≠ w.heap.size := by omega
    have hne2 : r ≠ w.heap.size := by have := h2.lt; omega
    have hne3 : q ≠ w.heap.size := by have := h2.lt; omega
    clear hB12 hB3 hs2 h2 hb2 hso
    go_wp2_with fail
    refine (keptBytes_any w.heap.size c b.length (b.length + 3) b.length A b rfl rfl rfl (by omega) w3 h3' hb3).mono ?_
    rintro e w4 ⟨rfl, hB4⟩
    have hB14 := hB13.trans (hB4.mono hB13.size)
    have hs4 := hs3.below hB4 hs3.lt
    have hR4 := hR3.below hB4
    have h4 := h3'.below hB4 h3'.lt
    clear hB13 hB4 hs3 hR3 h3' hb3
    go_wp2_with fail
    refine (over_any w.heap.size b.length (b.length + 3) (b ++ marks b.length) (by omega) (by rw [List.length_append, marks_length]) (by omega) w4 5 h4).mono ?_
    rintro e w5 ⟨rfl, h5, hu5⟩
    have hB15 := hB14.upd hu5 (Nat.le_refl _)
    have hs5 := hs4.upd hu5 hne1
    have hR5 := hR4.upd hu5 (Ne.symm hne2) (Ne.symm hne3)
    have hT5 : Tab w5 := hT.below hB15
    clear hB14 hs4 hR4 h4 h5 hu5
    go_wp2_with fail
    refine (awake09_any w5 hT5).mono ?_
    rintro e w6 ⟨rfl, hB6⟩
    have hB16 := hB15.trans (hB6.mono hB15.size)
    have hs6 := hs5.below hB6 hs5.lt
    have hR6 := hR5.below hB6
    clear hB15 hs5 hR5 hT5 hB6
    go_wp2_with fail
    refine (bytes_any (rd b) hsok hsl g w6 hs6).mono ?_
    rintro e w7 ⟨rfl, h7, hB7⟩
    rw [← enc_length (rd b)]
    have hB17 := hB16.trans (hB7.mono hB16.size)
    have hR7 := hR6.below hB7
    clear hB16 hs6 hR6 hB7
    go_wp2_with fail
    refine (rsbytes_any (rd b) hsok r q w7 hR7).mono ?_
    rintro e w8 ⟨v8, sp8, rfl, ho8, hB8⟩
    have hB18 := hB17.trans (hB8.mono hB17.size)
    have h8 := h7.below hB8 h7.lt
    obtain ⟨A8, c8, rfl, _, _, hb8⟩ := OwnB.open_ ho8
    clear hB17 hB8 h7 hR7 ho8
    generalize enc (rd b) = E at h8 hb8 ⊢
    go_wp2_with fail
    refine (sameBytes_any _ _ _ _ _ _ E E rfl rfl w8 h8.bytes hb8).mono ?_
    rintro e w9 ⟨rfl, rfl⟩
    rw [decide_eq_true rfl]
    go_wp2
    go_ret
    exact ⟨rfl, hB18⟩
  · rw [if_neg hok] at hr
    obtain ⟨rfl, hB2⟩ := hr
    have hB12 := hB1.trans (hB2.mono hB1.size)
    have h2 := h1.below hB2 hlt1
    have hb2 := Bytes.below hb hB12
    clear hB1 hB2 h1 hin
    go_wp2_with fail
    refine (rread_any A c b w2 hb2 (by omega)).mono ?_
    intro e w3 hr
    unfold RReadSet at hr
    rw [if_neg hok] at hr
    obtain ⟨rfl, hB3⟩ := hr
    have hB13 := hB12.trans (hB3.mono hB12.size)
    have h3' := h2.below hB3 h2.lt
    have hb3 := Bytes.below hb hB13
    clear hB12 hB3 h2 hb2
    go_wp2_with fail
    refine (keptBytes_any w.heap.size c b.length (b.length + 3) b.length A b rfl rfl rfl (by omega) w3 h3' hb3).mono ?_
    rintro e w4 ⟨rfl, hB4⟩
    have hB14 := hB13.trans (hB4.mono hB13.size)
    have h4 := h3'.below hB4 h3'.lt
    clear hB13 hB4 h3' hb3
    go_wp2_with fail
    refine (over_any w.heap.size b.length (b.length + 3) (b ++ marks b.length) (by omega) (by rw [List.length_append, marks_length]) (by omega) w4 5 h4).mono ?_
    rintro e w5 ⟨rfl, h5, hu5⟩
    have hB15 := hB14.upd hu5 (Nat.le_refl _)
    have hT5 : Tab w5 := hT.below hB15
    clear hB14 h4 h5 hu5
    go_wp2_with fail
    refine (awake09_any w5 hT5).mono ?_
    rintro e w6 ⟨rfl, hB6⟩
    have hB16 := hB15.trans (hB6.mono hB15.size)
    clear hB15 hT5 hB6
    go_wp2
    go_ret
    exact ⟨rfl, hB16⟩
end Go.Proofs.YtkjcidbhepminaaDoor
