/- All calls, one after the other, as the statement asks: it answers true and writes nothing that was there. Conditions: the arguments can be read; the table of Go's library lies as it was laid. -/
import Derived.Test.YtkjcidbhepminaaDoorScr1
import Derived.Test.YtkjcidbhepminaaDoorActs
import Derived.Test.YtkjcidbhepminaaDoorOver
namespace Go.Proofs.YtkjcidbhepminaaDoor
open Go.RowKit
theorem told_any (L : List Nat) (W w : World) (p g r q : Nat) (h : Pair W w p g r q L) :
    Calls Tryd.prog 29 #[.pointer (some ⟨p, 0, none⟩)] w fun e w' => e = .returned (.bool true) ∧ Pair W w' p g r q L := by
  have d0 := h.d0
  go_enter Tryd.func29, Tryd.ntmps29
  go_wp2_with fail
  refine (counts_any L h.ok h.len g w h.st).mono ?_
  rintro e w1 ⟨rfl, hb1⟩
  have h1 := h.below hb1
  have d1 := h1.d1
  clear d0 hb1 h
  go_wp2_with fail
  refine (rcounts_any L h1.ok r q w1 h1.rf).mono ?_
  rintro e w2 ⟨rfl, hb2⟩
  have h2 := h1.below hb2
  have d0 := h2.d0
  clear d1 hb2 h1
  go_wp2_with fail
  refine (bytes_any L h2.ok h2.len g w2 h2.st).mono ?_
  rintro e w3 ⟨rfl, hO, hb3⟩
  have h3 := h2.below hb3
  have hel := enc_length L
  have hell : (enc L).length ≤ 300 := by have := h2.ok.len; omega
  rw [← hel]
  have d1 := h3.d1
  clear d0 hel
  go_wp2_with fail
  refine (rsbytes_any L h3.ok r q w3 h3.rf).mono ?_
  rintro e w4 ⟨v, sp, rfl, ho4, hb4⟩
  have h4 := h3.below hb4
  have hO4 := hO.below hb4 hO.lt
  have hB4 := hb3.trans (hb4.mono hb3.size)
  obtain ⟨A4, c4, rfl, _, _, hb4'⟩ := OwnB.open_ ho4
  have H2 := Lib.hid h2
  clear hO hb3 hb4 d1 h3 h4 ho4 h2
  have hE : ∀ w' : World, Calls Tryd.prog 23 #[.slice (some ⟨w2.heap.size, 0, none⟩) (enc L).length (enc L).length, .slice A4 (enc L).length c4] w4 fun e w' => e = .returned (.bool true) ∧ w' = w4 := fun _ =>
    (sameBytes_any _ _ _ _ _ _ (enc L) (enc L) rfl rfl w4 hO4.bytes hb4').mono fun e w' ⟨he, hw⟩ => ⟨by rw [he, decide_eq_true rfl], hw⟩
  have hOv := over_any w2.heap.size (enc L).length (enc L).length (enc L) (Nat.le_refl _) rfl (by omega) w4 5 hO4
  generalize enc L = E at hE hOv hell ⊢
  clear hO4 hb4'
  go_wp2_with fail
  refine (hE w4).mono ?_
  rintro e w5 ⟨rfl, rfl⟩
  clear hE
  go_wp2_with fail
  refine hOv.mono ?_
  rintro e w6 ⟨rfl, _, u6⟩
  have h6 := H2.out.below (hB4.upd u6 (Nat.le_refl _))
  have HP := Lib.hid h6
  clear hOv H2 hB4 u6 h6
  generalize cnts L 0 = n0
  generalize cnts L 1 = n1
  generalize cnts L 2 = n2
  have b0 : ((n0 : Int) == n0) = true := by simp
  have b1 : ((n1 : Int) == n1) = true := by simp
  have b2 : ((n2 : Int) == n2) = true := by simp
  go_wp2
  go_ret
  exact ⟨rfl, HP.out⟩
theorem sizeAct : (Tryd.prog.info? 55).map (·.size) = some 2 := by kernel_rfl
def ScrRel (W : World) (p r q m : Nat) (v : Value) (wr : World) : Prop := ∃ (k g : Nat) (L : List Nat), k ≤ m ∧ v = .int .i64 (k : Int) ∧ Pair W wr p g r q L
set_option maxRecDepth 100000 in
set_option maxHeartbeats 1000000 in
theorem script09_any (blocks : Int) (A : Option Addr) (c : Nat) (l : List ActT) (w : World) (ha : Acts w A l) (hT : Tab w) :
    Calls Tryd.prog 8 #[.int .i64 blocks, .slice A l.length c] w fun e w' => e = .returned (.bool true) ∧ Below w.heap.size w w' := by
  by_cases hr : blocks < 1 ∨ 512 < blocks
  · have hn1 := new_bad blocks hr w
    have hn2 := rnew_bad blocks hr w
    clear hr
    go_enter Tryd.func8, Tryd.ntmps8
    go_wp2_with fail
    refine hn1.mono ?_
    rintro e w1 ⟨rfl, rfl⟩
    go_wp2_with fail
    refine hn2.mono ?_
    rintro e w2 ⟨rfl, rfl⟩
    go_wp2_with fail
    refine (awake09_any w hT).mono ?_
    rintro e w3 ⟨rfl, hb3⟩
    go_wp2
    go_ret
    exact ⟨rfl, hb3⟩
  obtain ⟨n, rfl⟩ : ∃ n : Nat, blocks = (n : Int) := ⟨blocks.toNat, by omega⟩
  have n1 : 0 < n := by omega
  have n2 : n ≤ 512 := by omega
  clear hr
  have hn1 := new_any n n1 n2 w
  have hn2 := rnew_any n n1 n2
  have hok := Lib.hid (And.intro (setOk_new n n2) (show 0 < (List.replicate n 0).length by simpa using n1))
  clear n1 n2
  by_cases hl : 60 < l.length
  · have hl' : (60 : Int) < l.length := by omega
    go_enter Tryd.func8, Tryd.ntmps8
    go_wp2_with fail
    refine hn1.mono ?_
    rintro e w1 ⟨rfl, hs1, hb1⟩
    go_wp2_with fail
    refine (hn2 w1).mono ?_
    rintro e w2 ⟨rfl, hr2, hb2⟩
    have hB2 := hb1.trans (hb2.mono hb1.size)
    clear hn1 hn2 hl
    go_wp2_with fail
    refine (awake09_any w2 (hT.below hB2)).mono ?_
    rintro e w3 ⟨rfl, hb3⟩
    go_wp2
    go_ret
    exact ⟨rfl, hB2.trans (hb3.mono hB2.size)⟩
  have hl' : (l.length : Int) ≤ 60 := by omega
  clear hl
  go_enter Tryd.func8, Tryd.ntmps8
  go_wp2_with fail
  refine hn1.mono ?_
  rintro e w1 ⟨rfl, hs1, hb1⟩
  go_wp2_with fail
  refine (hn2 w1).mono ?_
  rintro e w2 ⟨rfl, hr2, hb2⟩
  have hB2 := hb1.trans (hb2.mono hb1.size)
  have hs2 := hs1.below hb2 hs1.lt
  have q1 := hb1.size
  have q2 := hs1.lt
  have q3 := hr2.hd.lt
  have hB3 := hB2.alloc hB2.size (.cells #[.pointer (some ⟨w.heap.size, 0, none⟩), .pointer (some ⟨w1.heap.size + 1, 0, none⟩)] 61)
  have P3 : Pair w (w2.alloc (.cells #[.pointer (some ⟨w.heap.size, 0, none⟩), .pointer (some ⟨w1.heap.size + 1, 0, none⟩)] 61)) w2.heap.size w.heap.size (w1.heap.size + 1) w1.heap.size (List.replicate n 0) :=
    ⟨Blk.new _ _ _, hs2.alloc _, ⟨hr2.hd.alloc _, hr2.tl.alloc _, hr2.ne⟩, hok.out.1, hok.out.2, ⟨by omega, by omega, by omega, by omega, by omega⟩, ⟨by omega, by omega, by omega, by omega⟩, hB3⟩
  have HP := Lib.hid P3
  clear hn1 hn2 hb1 hb2 hs1 hr2 hB2 hs2 hB3 P3 hok q1 q2 q3
  go_wp2
  go_loopw [10] (fun v wr => ScrRel w w2.heap.size (w1.heap.size + 1) w1.heap.size l.length v wr) (fun v _ => l.length - (intOf v).toNat)
  case atStart => exact ⟨0, _, _, by omega, rfl, HP.out⟩
  case round =>
    clear HP
    generalize w2.heap.size = p at hrel ⊢
    generalize w1.heap.size = q at hrel ⊢
    generalize q + 1 = r at hrel ⊢
    obtain ⟨k, g, L, hk, rfl, hP⟩ := hrel
    by_cases hkl : k < l.length
    · obtain ⟨b, off, hA, hbl, hc⟩ := ha (by omega)
      obtain ⟨c0, c1, _, _, m1, m2⟩ := hc k hkl
      have c0' := (hP.bel.cell (p := ⟨b, off + k * 2, none⟩) hbl).trans c0
      have c1' := (hP.bel.cell (p := ⟨b, off + k * 2 + 1, none⟩) hbl).trans c1
      have hact := fun w' hw' => act_any L l[k].1 l[k].2.1 m1 m2 w w' p g r q hw' hT
      generalize l[k].1 = x at c0' hact
      generalize l[k].2.1 = y at c1' hact
      have HT := Lib.hid (And.intro ha hT)
      clear hc c0 c1 m1 m2 ha hT
      subst hA
      go_wp2_with (first | (show wpList _ _ _ ((⟨some 53, _, _, _, _, _⟩ : Oper) :: _) _ _; refine wpList_load_mid (o := ⟨some 53, _, _, _, _, _⟩) (range2 (b := b) (off := off + k * 2) (u := .int .i64 x) (v := .int .i64 y) (c0') (c1')) (by rfl) _ _ (by rfl) (by rfl) _ Tryd.underlying55 (by rfl) sizeAct (by rfl) ?_) | fail)
      refine (hact wr hP).mono ?_
      rintro e w3 ⟨rfl, g', L', hP3⟩
      clear hact hP c0' c1'
      go_wp2_with fail
      refine (told_any L' w w3 p g' r q hP3).mono ?_
      rintro e w4 ⟨rfl, hP4⟩
      have H4 := Lib.hid hP4
      clear hP3 hP4
      go_wp2
      go_roundw
      case rel => exact ⟨k + 1, _, _, by omega, by go_num, H4.out⟩
      case measure => simp [intOf]; omega
    · obtain rfl : k = l.length := by omega
      clear hkl
      go_wp2_with fail
      refine (awake09_any wr (hT.below hP.bel)).mono ?_
      rintro e w3 ⟨rfl, hb3⟩
      go_wp2
      go_ret
      exact ⟨rfl, hP.bel.trans (hb3.mono hP.bel.size)⟩
end Go.Proofs.YtkjcidbhepminaaDoor
