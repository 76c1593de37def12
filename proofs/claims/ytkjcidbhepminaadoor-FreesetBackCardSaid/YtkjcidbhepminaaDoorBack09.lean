/- What is written is read as it was, as the statement asks: it answers true and writes nothing that was there. Conditions: the arguments can be read; the table of Go's library lies as it was laid. -/
import Derived.Test.YtkjcidbhepminaaDoorKnown09
import Derived.Test.YtkjcidbhepminaaDoorFreeC
namespace Go.Proofs.YtkjcidbhepminaaDoor
open Go.RowKit
def BackRel (w : World) (g n : Nat) (v : Value) (m : Nat) (wr : World) : Prop :=
  ∃ (k : Nat) (L : List Nat), k ≤ m ∧ v = .int .i64 (k : Int) ∧ SetOk L ∧ L.length = n ∧ Blk wr g 26 (setCells L) ∧ Below w.heap.size w wr
def IsRel (wb : World) (m : Nat) (v : Value) (wr : World) : Prop := ∃ k j : Nat, k ≤ m ∧ v = .int .i64 (k : Int) ∧ wr = wb.drewN j
set_option maxRecDepth 100000 in
set_option maxHeartbeats 4000000 in
theorem back09_any (blocks : Int) (A B : Option Addr) (c d : Nat) (l b : List UInt8) (hb1 : -9223372036854775808 ≤ blocks) (hb2 : blocks ≤ 9223372036854775807) (w : World) (hl : Bytes w A l) (hb : Bytes w B b) (hT : Tab w) :
    Calls Tryd.prog 7 #[.int .i64 blocks, .slice A l.length c, .slice B b.length d] w fun e w' => e = .returned (.bool true) ∧ Below w.heap.size w w' := by
  have kn := known09_any w hT
  by_cases c1 : 300 < l.length
  · have c1' : (300 : Int) < l.length := by omega
    go_enter Tryd.func7, Tryd.ntmps7
    go_wp2_with fail
    refine kn.mono ?_
    rintro e w1 ⟨rfl, hB1⟩
    go_wp2
    go_ret
    exact ⟨rfl, hB1⟩
  have c1' : (l.length : Int) ≤ 300 := by omega
  by_cases c2 : 300 < b.length
  · have c2' : (300 : Int) < b.length := by omega
    go_enter Tryd.func7, Tryd.ntmps7
    go_wp2_with fail
    refine kn.mono ?_
    rintro e w1 ⟨rfl, hB1⟩
    go_wp2
    go_ret
    exact ⟨rfl, hB1⟩
  have c2' : (b.length : Int) ≤ 300 := by omega
  by_cases hr : blocks < 1 ∨ 512 < blocks
  · clear hb1 hb2
    go_enter Tryd.func7, Tryd.ntmps7
    go_wp2_with fail
    refine kn.mono ?_
    rintro e w1 ⟨rfl, hB1⟩
    have hnb := new_bad blocks hr w1
    clear hr
    go_wp2_with fail
    refine hnb.mono ?_
    rintro e w2 ⟨rfl, rfl⟩
    go_wp2
    go_ret
    exact ⟨rfl, hB1⟩
  obtain ⟨n, rfl⟩ : ∃ n : Nat, blocks = (n : Int) := ⟨blocks.toNat, by omega⟩
  have hn1 : 0 < n := by omega
  have hn2 : n ≤ 512 := by omega
  clear hr hb1 hb2 c1 c2
  go_enter Tryd.func7, Tryd.ntmps7
  go_wp2_with fail
  refine kn.mono ?_
  rintro e w1 ⟨rfl, hB1⟩
  clear kn
  go_wp2_with fail
  refine (new_any n hn1 hn2 w1).mono ?_
  rintro e w2 ⟨rfl, hs2, hb2⟩
  have hB2 := hB1.trans (hb2.mono hB1.size)
  have hge := hB1.size
  obtain ⟨g, hg⟩ : ∃ g, g = w1.heap.size := ⟨_, rfl⟩
  rw [← hg] at hs2 hge ⊢
  have HS := Lib.hid (And.intro hs2 hB2)
  clear hs2 hB2 hb2 hB1 hg
  go_wp2_with fail
  go_loopw [10] (fun v wr => BackRel w g n v l.length wr) (fun v _ => l.length - (intOf v).toNat)
  case atStart => exact ⟨0, List.replicate n 0, by omega, rfl, setOk_new n hn2, by simp, HS.out.1, HS.out.2⟩
  case round =>
    clear HS
    obtain ⟨k, L, hk, rfl, hok, hL, hs, hB⟩ := hrel
    by_cases hkl : k < l.length
    · have hlr := Bytes.below hl hB
      obtain ⟨bb, off, hA, hbl, hcell⟩ := hlr.at_ (by omega)
      have d1 := hcell k hkl
      have x0 := iu8_lo (l.getD k 0)
      have x1 := iu8_hi (l.getD k 0)
      generalize iu8 (l.getD k 0) = x at d1 x0 x1
      have hbb : bb < w.heap.size := by
        obtain ⟨b2, off2, hA2, hb2, _⟩ := hl.at_ (by omega)
        rw [hA] at hA2; injection hA2 with hA2; injection hA2 with h1 _; omega
      have ht := take_any L hok (by omega) g (1 + x) (by omega) (by omega) wr hs
      have hB' := Lib.hid hB
      have HL := Lib.hid hL
      have HA := Lib.hid (And.intro hl (And.intro hb hT))
      subst hA
      clear hcell hlr hB hL hl hb hs hT
      go_wp2_with fail
      refine ht.mono ?_
      rintro e w3 ⟨rfl, hs3, hu3⟩
      have hok3 := hok.turn (1 + x) 0 1 (by omega)
      have hl3 := turnL_length L (1 + x) 0 1
      generalize turnL L (1 + x) 0 1 = L3 at hs3 hok3 hl3
      have hB3 := hB'.out.upd hu3 hge
      have d3 : w3.cell? ⟨bb, off + k, none⟩ = some (.int .u8 x) := by
        have e1 := hu3.block bb (by omega)
        exact (World.cell?_of_block e1).trans d1
      have HB3 := Lib.hid (And.intro hs3 hB3)
      have HL3 := Lib.hid hl3
      clear ht hB' hs3 hu3 hB3 hl3 d1
      by_cases hm : x % 3 = 0
      · have hm' : (x % 3 == 0) = true := by simp [hm]
        have hr3 := release_any L3 hok3 (by have := HL3.out; have := HL.out; omega) g (1 + x) (by omega) (by omega) w3 HB3.out.1
        clear hm
        go_wp2_with fail
        refine hr3.mono ?_
        rintro e w4 ⟨rfl, hs4, hu4⟩
        have hok4 := hok3.turn (1 + x) 1 2 (by omega)
        have hl4 := turnL_length L3 (1 + x) 1 2
        have HB4 := Lib.hid (And.intro hs4 (And.intro (HB3.out.2.upd hu4 hge) (And.intro hok4 hl4)))
        clear hr3 hs4 hu4 hok4 hl4
        go_wp2
        go_roundw
        case rel => exact ⟨k + 1, _, by omega, by go_num, HB4.out.2.2.1, by rw [HB4.out.2.2.2, HL3.out, HL.out], HB4.out.1, HB4.out.2.1⟩
        case measure => simp [intOf]; omega
      · have hm' : (x % 3 == 0) = false := by simpa using hm
        clear hm
        go_wp2
        go_roundw
        case rel => exact ⟨k + 1, L3, by omega, by go_num, hok3, by rw [HL3.out, HL.out], HB3.out.1, HB3.out.2⟩
        case measure => simp [intOf]; omega
    · obtain rfl : k = l.length := by omega
      have hL0 : 0 < L.length := by omega
      have HLn := Lib.hid hL
      obtain ⟨r1, r2⟩ := rd_enc L hok hL0
      have HR := Lib.hid (And.intro r1 r2)
      have hbr := Bytes.below hb hB
      clear hL r1 r2 hkl
      go_wp2_with fail
      refine (bytes_any L hok hL0 g wr hs).mono ?_
      rintro e w3 ⟨rfl, hO, hb3⟩
      have hB3 := hB.trans (hb3.mono hB.size)
      have hs3 := hs.below hb3 hs.lt
      have hel := enc_length L
      have hOb := hO.bytes
      have hell : (enc L).length ≤ 300 := by have := hok.len; omega
      rw [← hel]
      have hrd := read_yes (some ⟨wr.heap.size, 0, none⟩) (enc L).length (enc L) HR.out.1 w3 hOb (by omega)
      rw [HR.out.2] at hrd
      clear hs hO hb3 hB hel
      go_wp2_with fail
      refine hrd.mono ?_
      rintro e w4 ⟨t, ht, rfl, ht4, hb4⟩
      have hB4 := hB3.trans (hb4.mono hB3.size)
      have hs4 := hs3.below hb4 hs3.lt
      have HF := Lib.hid (And.intro hs4 (And.intro ht4 hB4))
      clear hrd hOb hs3 hb4 hB3 hs4 ht4 hB4 ht hbr hell
      go_wp2_with fail
      go_loopw [13] (fun v wr => IsRel w4 (n + 2) v wr) (fun v _ => n + 2 - (intOf v).toNat)
      case atStart => exact ⟨0, 0, by omega, rfl, rfl⟩
      case round =>
        obtain ⟨k, j, hk2, rfl, rfl⟩ := hrel
        by_cases hkn : k < n + 2
        · have i1 := is_any L hok hL0 t (k : Int) (by omega) (by omega) (w4.drewN j) (HF.out.2.1.drewN j)
          have i2 : ∀ m, Calls Tryd.prog 14 #[.pointer (some ⟨g, 0, none⟩), .int .i64 (k : Int)] (w4.drewN m) fun e w' => e = .returned (.int .i64 (isAt L (k : Int))) ∧ ∃ n, w' = w4.drewN n := fun m =>
            (is_any L hok hL0 g (k : Int) (by omega) (by omega) (w4.drewN m) (HF.out.1.drewN m)).mono fun e w' ⟨he, x, hx⟩ => ⟨he, m + x, by rw [hx, World.drewN_drewN]⟩
          obtain ⟨y, hy⟩ : ∃ y, y = isAt L (k : Int) := ⟨_, rfl⟩
          rw [← hy] at i1 i2
          have hyy : (y != y) = false := by simp
          have hk513 : (k : Int) < 514 := by omega
          have hkn1 : (k : Int) ≤ (n : Int) + 1 := by omega
          clear hy
          go_wp2_with fail
          refine i1.mono ?_
          rintro e w5 ⟨rfl, j1, rfl⟩
          rw [World.drewN_drewN]
          clear i1
          go_wp2_with fail
          refine (i2 _).mono ?_
          rintro e w5 ⟨rfl, j2, rfl⟩
          clear i2
          go_wp2
          go_roundw
          case rel => exact ⟨k + 1, j2, by omega, by go_num, rfl⟩
          case measure => simp [intOf]; omega
        · obtain rfl : k = n + 2 := by omega
          have hge2 : (n : Int) + 1 < (n : Int) + 2 := by omega
          have hBd := below_drewN HF.out.2.2 j
          have hbd : Bytes (w4.drewN j) B b := Bytes.below hb hBd
          generalize w4.drewN j = w5 at hBd hbd ⊢
          by_cases hokb : rdOk b = true
          · have hso := (rdOk_iff b).1 hokb
            have hsok := rd_ok hso.1 hso.2.1
            have hsl : 0 < (rd b).length := by rw [rd_length]; exact ((rdPre_iff b).1 hso.1).2.1
            have hrb := read_yes B d b hokb w5 hbd (by omega)
            have HE := Lib.hid hso.2.2
            clear hso
            go_wp2_with fail
            refine hrb.mono ?_
            rintro e w6 ⟨u, hu, rfl, hs6, hb6⟩
            have hB6 := hBd.trans (hb6.mono hBd.size)
            have hbd6 := Bytes.below hb hB6
            clear hrb hb6 hBd hbd hu
            go_wp2_with fail
            refine (bytes_any (rd b) hsok hsl u w6 hs6).mono ?_
            rintro e w7 ⟨rfl, hO7, hb7⟩
            have hB7 := hB6.trans (hb7.mono hB6.size)
            have hbd7 := Bytes.below hb hB7
            rw [HE.out] at hO7
            have hel := enc_length (rd b)
            rw [HE.out] at hel
            have hOb := hO7.bytes
            rw [← hel]
            clear hs6 hB6 hbd6 hO7 hb7 hel
            go_wp2_with fail
            refine (sameBytes_any _ _ _ _ _ _ b b rfl rfl w7 hOb hbd7).mono ?_
            rintro e w8 ⟨rfl, rfl⟩
            rw [decide_eq_true rfl]
            go_wp2
            go_ret
            exact ⟨rfl, hB7⟩
          · have hnob : rdOk b = false := by simpa using hokb
            have hrb := read_no B d b hnob w5 hbd (by omega)
            clear hokb
            go_wp2_with fail
            refine hrb.mono ?_
            rintro e w6 ⟨rfl, hb6⟩
            have hB6 := hBd.trans (hb6.mono hBd.size)
            clear hrb hb6 hBd hbd
            go_wp2
            go_ret
            exact ⟨rfl, hB6⟩
end Go.Proofs.YtkjcidbhepminaaDoor
