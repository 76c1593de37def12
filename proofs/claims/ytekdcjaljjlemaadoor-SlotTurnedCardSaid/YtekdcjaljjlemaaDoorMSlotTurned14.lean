/- Whatever a crash leaves of a prepare: the statement, as a call: it answers true and writes nothing that was there. Conditions: the body and the numbers of what stays can be read; the numbers are what Go's types hold. -/
import Derived.Test.YtekdcjaljjlemaaDoorMSlotTurned13
namespace Go.Proofs.YtekdcjaljjlemaaDoor
open Go.RowKit
theorem Slot.bytes_cases (f : HdF) (l : List UInt8) : (∃ c : Int, c ≠ 0 ∧ Slot.bytes f l = (c, [])) ∨ (Slot.bytes f l = (0, fillN 1280 (Hd.bytes (setF f 2 l.length) l)) ∧ l.length ≤ 1024 ∧ Hd.ok (setF f 2 l.length) = true ∧ Slot.is f (Slot.of (f 5)) = true) := by
  rcases Msg.seal_cases f l with ⟨hs, hl, hok⟩ | ⟨co, hco, hs⟩
  · cases hi : Slot.is f (Slot.of (f 5))
    · refine .inl ⟨2, by omega, ?_⟩
      unfold Slot.bytes; rw [hs, if_pos rfl, hi]; rfl
    · refine .inr ⟨?_, hl, hok, rfl⟩
      unfold Slot.bytes; rw [hs, if_pos rfl, hi]; rfl
  · refine .inl ⟨co, hco, ?_⟩
    unfold Slot.bytes; rw [hs, if_neg hco]
/-- A slot's bytes of a prepare: what they say. -/
theorem Slot.bytes_say (f : HdF) (l : List UInt8) (hin : Hd.in_ f) (hl : l.length ≤ 1024) (hok : Hd.ok (setF f 2 l.length) = true) (hi : Slot.is f (Slot.of (f 5)) = true) :
    ∃ F, (fillN 1280 (Hd.bytes (setF f 2 l.length) l)).length = 1280 ∧ (fillN 1280 (Hd.bytes (setF f 2 l.length) l)).take (256 + l.length) = Hd.bytes (setF f 2 l.length) l ∧
      Slot.prep (fillN 1280 (Hd.bytes (setF f 2 l.length) l)) (Slot.of (f 5)) = (true, F, l) ∧ Slot.kind ((fillN 1280 (Hd.bytes (setF f 2 l.length) l)).take 256) (Slot.of (f 5)) = (2, F) ∧ Hd.same F (setF f 2 l.length) := by
  have hbl := Hd.bytes_length (setF f 2 l.length) l
  have ht : (fillN 1280 (Hd.bytes (setF f 2 l.length) l)).take (256 + l.length) = Hd.bytes (setF f 2 l.length) l := by
    rw [fillN_take _ _ _ (by omega), ← hbl, List.take_length]
  have hi2 : Slot.is (setF f 2 l.length) (Slot.of (f 5)) = true := by
    have : Slot.is (setF f 2 l.length) (Slot.of (f 5)) = Slot.is f (Slot.of (f 5)) := by unfold Slot.is setF; simp
    rw [this]; exact hi
  have hin2 := setF_in f l.length hin
  obtain ⟨h1, h2, h3⟩ := Slot.prep_bytes _ _ l (Slot.of (f 5)) ht hok hin2 (by unfold setF; rw [if_pos rfl]) hi2
  refine ⟨_, fillN_length _ _ (by omega), ht, h1, ?_, h2⟩
  rw [h3]
  exact Slot.kind_bytes _ l _ hok hin2 hi2
theorem Slot.judge_left (b : List UInt8) (n : Int) (hn : 0 ≤ n ∧ n < 16) (h : (Slot.prep b n).1 = true) : Slot.judge (Hd.bytes (Slot.fU n) []) b n = (1, (Slot.prep b n).2.1 5, (Slot.prep b n).2.1 3, true) := by
  rw [Slot.judge_in _ _ _ hn, Slot.kind_unw n hn]
  generalize Slot.prep b n = p at h ⊢
  obtain ⟨q, F, D⟩ := p
  dsimp only at h
  rw [h, Slot.put_mend _ _ _ _ _ _ (by omega)]
theorem Slot.judge_left' (b : List UInt8) (n : Int) (hn : 0 ≤ n ∧ n < 16) (h : (Slot.prep b n).1 = false) : Slot.judge (Hd.bytes (Slot.fU n) []) b n = (4, 0, 0, false) ∨ Slot.judge (Hd.bytes (Slot.fU n) []) b n = (2, 0, 0, false) := by
  rw [Slot.judge_in _ _ _ hn, Slot.kind_unw n hn, Slot.prep_no h, Slot.put_no1]
  cases b.all (· == 0)
  · exact .inr rfl
  · exact .inl rfl
theorem Slot.judge_cut (b cut : List UInt8) (n : Int) (F : HdF) (l : List UInt8) (hn : 0 ≤ n ∧ n < 16) (hp : Slot.prep b n = (true, F, l)) (hk : Slot.kind (b.take 256) n = (2, F)) (h : (Hd.read cut).1 ≠ 0 ∨ cut = Hd.bytes (Slot.fU n) [] ∨ cut = b.take 256) :
    ∃ mn, Slot.judge cut b n = (1, F 5, F 3, mn) := by
  rw [Slot.judge_in _ _ _ hn, hp]
  rcases h with h | h | h
  · exact ⟨true, by rw [Slot.kind_broken h, Slot.put_mend _ _ _ _ _ _ (by omega)]⟩
  · exact ⟨true, by rw [h, Slot.kind_unw n hn, Slot.put_mend _ _ _ _ _ _ (by omega)]⟩
  · exact ⟨false, by rw [h, hk, decide_eq_true rfl, Slot.put_same]⟩
theorem Hd.same_beq {F f : HdF} (h : Hd.beq F f = true) : F 5 = f 5 ∧ F 3 = f 3 := ⟨(Hd.beq_same F f).1 h 5 (by omega), (Hd.beq_same F f).1 h 3 (by omega)⟩
set_option maxRecDepth 100000 in
set_option maxHeartbeats 8000000 in
theorem crash_any (f : HdF) (A Bk : Option Addr) (c dk : Nat) (l : List UInt8) (ks : List Bool) (tear : Int) (hin : Hd.in_ f) (hc : l.length ≤ c ∧ c ≤ 9223372036854775807) (w : World) (hby : Bytes w A l) (hk : Reads w Bk (ks.map Value.bool)) :
    Calls Tryd.prog 5 #[.agg (msgc f (.slice A l.length c)), .slice Bk ks.length dk, .int .i64 tear] w fun e w' => e = .returned (.bool true) ∧ Below w.heap.size w w' := by
  have hm := Blk.new w 29 (msgc f (.slice A l.length c))
  have hB := (Below.refl w.heap.size w).alloc (Nat.le_refl _) (.cells (msgc f (.slice A l.length c)) 29)
  have hby0 := Lib.hid hby
  have hk0 := Lib.hid hk
  have HC := Lib.hid hc
  have HIN := Lib.hid hin
  clear hby hk hc hin
  go_enter Tryd.func5, Tryd.ntmps5
  go_wp2_with fail
  generalize w.alloc (.cells (msgc f (.slice A l.length c)) 29) = w1 at hm hB ⊢
  generalize hs0 : w.heap.size = s0 at hm ⊢
  have HS0 := Lib.hid hs0
  clear hs0
  refine (known07_any w1).mono ?_
  rintro e w2 ⟨rfl, hbx⟩
  (replace hm := keep hbx hm; replace hB := hB.trans (hbx.mono hB.size))
  clear hbx
  have d16 := hm.at_ 16 (msgc_16 f _)
  by_cases hl1 : 1024 < l.length
  · have HB := Lib.hid hB
    clear hB hm
    go_wp2
    go_ret
    exact ⟨rfl, HB.out⟩
  by_cases hl2 : 10 < ks.length
  · have HB := Lib.hid hB
    clear hB hm
    go_wp2
    go_ret
    exact ⟨rfl, HB.out⟩
  have HL := Lib.hid (show l.length ≤ 1024 ∧ ks.length ≤ 10 by omega)
  go_wp2_with (first
    | ((with_reducible show wpList _ _ _ ((⟨some 34, _, _, _, _, _⟩ : Oper) :: _) _ _); refine wpList_load_blk (o := ⟨some 34, _, _, _, _, _⟩) (hm) (by rfl) _ _ (by rfl) (by rfl) _ Tryd.underlying29 (by rfl) (sizeMsg) (msgc_size _ _) ?_)
    | fail)
  clear hl1 hl2 d16
  have hlt2 := hm.lt
  have hby2 := Bytes.below hby0.out hB
  refine (sbytes_any f A l.length c l w2 rfl hby2 HC.out HIN.out).mono ?_
  rintro e w3 ⟨E1, rfl, hE1, hE1g, hE1n, hE1l, hbx⟩
  (replace hm := keep hbx hm; replace hB := hB.trans (hbx.mono hB.size))
  clear hbx hby2
  have d5 := hm.at_ 5 (msgc_at f _ 5 (by omega))
  obtain ⟨cb, hcb⟩ : ∃ x, x = (Slot.bytes f l).1 := ⟨_, rfl⟩
  rw [← hcb]
  have HCB := Lib.hid hcb
  clear hcb
  go_wp2_with fail
  refine (sof_any (f 5) w3).mono ?_
  rintro e w4 ⟨rfl, hw4⟩
  rw [← hw4] at hm hB d5 hE1
  clear hw4
  have hnb := Slot.of_bounds (f 5)
  obtain ⟨n, hn⟩ : ∃ n, n = Slot.of (f 5) := ⟨_, rfl⟩
  rw [← hn] at hnb ⊢
  have HNN := Lib.hid (And.intro hn hnb)
  clear hn hnb
  have hlt4 := hm.lt
  go_wp2_with fail
  refine (sunw_any n w4).mono ?_
  rintro e w5 ⟨E2, rfl, hE2, hE2g, hE2n, hE2l, hbx⟩
  (replace hm := keep hbx hm; replace hE1 := keep hbx hE1; replace hB := hB.trans (hbx.mono hB.size))
  clear hbx d5
  rw [show Slot.unw n = (0, Hd.bytes (Slot.fU n) []) by unfold Slot.unw; rw [if_neg (by have := HNN.out.2; omega)]] at hE2l ⊢
  dsimp only at hE2l ⊢
  rcases Slot.bytes_cases f l with ⟨co, hco, hs⟩ | ⟨hs, hl3, hok, hi⟩
  · have hc0 : (cb != 0) = true := by rw [bne_iff_ne, HCB.out, hs]; exact hco
    have HB := Lib.hid hB
    clear hE1 hE1g hE1n hE1l hE2 hE2g hE2n hE2l hs hco hm hB
    go_wp2
    go_ret
    exact ⟨rfl, HB.out⟩
  obtain rfl : cb = 0 := by rw [HCB.out, hs]
  have hz := Slot.bytes_say f l HIN.out hl3 hok hi
  rw [hs] at hE1l
  dsimp only at hE1l
  rw [← HNN.out.1, ← hE1l] at hz
  obtain ⟨FB, hBl, hBt, hBp, hBk, hBs⟩ := hz
  have hUl : (Hd.bytes (Slot.fU n) []).length = 256 := Hd.bytes_length _ _
  rw [← hE2l] at hUl
  obtain ⟨gb, tb, e1, hbb, hgb⟩ := Ent.Is.blk_ hE1 (by omega)
  obtain ⟨gu, tu, e2, hbu, hgu⟩ := Ent.Is.blk_ hE2 (by omega)
  have hgb2 := hE1g _ hgb
  have hgu2 := hE2g _ hgu
  obtain ⟨A1, n1, B⟩ := E1
  obtain ⟨A2, n2, U⟩ := E2
  dsimp only at hE1n hE2n hE1l hE2l hBl hBt hBp hBk hUl e1 e2 hbb hbu
  subst hE1n hE2n e1 e2
  have HBB := Lib.hid (And.intro hBl (And.intro hBt (And.intro hBp (And.intro hBk hBs))))
  have HUU := Lib.hid (And.intro hUl hE2l)
  dsimp only [Ent.val]
  rw [hBl, hUl]
  have hne : gb ≠ s0 ∧ gu ≠ s0 := by omega
  clear hE1 hE1g hE1l hE2 hE2g hE2l hs HCB hok hi hgb hgu hBl hBt hBp hBk hBs hUl hgb2 hgu2
  obtain ⟨fx, hfx⟩ : ∃ fx, fx = setF f 2 l.length := ⟨_, rfl⟩
  rw [← hfx] at HBB
  have hfxc : msgc fx (.slice A l.length c) = (msgc f (.slice A l.length c)).setIfInBounds 2 (.int .i64 l.length) := by rw [hfx]; exact (msgc_set _ _ _).symm
  have HFX := Lib.hid (show fx 5 = f 5 ∧ fx 3 = f 3 by rw [hfx]; unfold setF; simp)
  have d16 := hm.at_ 16 (msgc_16 f _)
  have f2 := hm.frozen 2
  have d2 := hm.at_ 2 (msgc_at f _ 2 (by omega))
  have HSET := Lib.hid (And.intro ((hm.set_ 2 (.int .i64 (l.length : Nat))).sub hfxc.symm) (And.intro (hbb.off (c := s0) (i := 2) hne.1 (.int .i64 (l.length : Nat))) (And.intro (hbu.off (c := s0) (i := 2) hne.2 (.int .i64 (l.length : Nat))) (hB.set_ (c := s0) (i := 2) (by have := HS0.out; omega) (.int .i64 (l.length : Nat))))))
  clear hm hbb hbu hB hne hfx hfxc
  go_wp2_with (first
    | (generalize World.setCell w5 _ _ = w7 at HSET ⊢; ((with_reducible show wpList _ _ _ ((⟨some 71, _, _, _, _, _⟩ : Oper) :: _) _ _); refine wpList_make_bytes (o := ⟨some 71, _, _, _, _, _⟩) _ (by rfl) _ _ _ (by rfl) _ Tryd.underlying27 u8info .i64 .i64 _ _ (1280) (1280) (by rfl) (by rfl) (by first | rfl | omega) (by first | rfl | omega) (by omega) (by omega) ?_; intro w8 h8 hb8 hs8))
    | fail)
  clear d16 f2 d2
  obtain ⟨hm, hbb, hbu, hB⟩ := HSET.out
  clear HSET
  (replace hm := keep hb8 hm; replace hbb := keep hb8 hbb; replace hbu := keep hb8 hbu; replace hB := hB.trans (hb8.mono hB.size))
  clear hb8 hs8
  refine (part_any (some ⟨w7.heap.size, 0, none⟩) (some ⟨gb, 0, none⟩) Bk 1280 1280 1280 dk (List.replicate 1280 0) B ks tear (.inr rfl) (List.length_replicate ..) HBB.out.1 (Nat.le_refl _) (Nat.le_refl _) HL.out.2 w8 h8.bytes hbb.bytes (Reads.below hk0.out hB)).mono ?_
  rintro e w9 ⟨gl, capl, TL, rfl, -, hbl, hTl, hcl1, hcl2, hbx⟩
  (replace hm := keep hbx hm; replace hbb := keep hbx hbb; replace hbu := keep hbx hbu; replace hB := hB.trans (hbx.mono hB.size))
  clear hbx h8
  have hlb := hbl.bytes.take 1280
  have hll : (TL.take 1280).length = 1280 := by rw [List.length_take, hTl]; omega
  obtain ⟨LL, hLL⟩ : ∃ x, x = TL.take 1280 := ⟨_, rfl⟩
  rw [← hLL] at hlb hll
  have HLL := Lib.hid (And.intro hll (And.intro hcl1 hcl2))
  clear hbl hTl hcl1 hcl2 hLL hll
  go_wp2_with fail
  refine (judge_any (some ⟨gu, 0, none⟩) (some ⟨gl, 0, none⟩) 256 256 1280 capl U LL n HNN.out.2 ⟨HUU.out.1.symm, Nat.le_refl _, by omega⟩ ⟨HLL.out.1.symm, HLL.out.2.1, by omega, HLL.out.2.2⟩ w9 hbu.bytes hlb).mono ?_
  rintro e w10 ⟨rfl, hbx⟩
  (replace hm := keep hbx hm; replace hbb := keep hbx hbb; replace hbu := keep hbx hbu; replace hlb := keep hbx hlb; replace hB := hB.trans (hbx.mono hB.size))
  clear hbx
  have hG14a := hm.lt
  have hG14b := hbb.lt
  have hG14c := hB.size
  obtain ⟨S1, hS1⟩ : ∃ x, x = Slot.judge U LL n := ⟨_, rfl⟩
  rw [← hS1]
  have HS1 := Lib.hid hS1
  clear hS1
  obtain ⟨C1, hC1⟩ : ∃ x : Array Value, stv S1 = .agg x := ⟨_, rfl⟩
  have hC14 : C1.size = 4 := by unfold stv at hC1; injection hC1 with hC1; rw [← hC1]; rfl
  have hC1o : C1.all (·.oneCell') = true := by unfold stv at hC1; injection hC1 with hC1; rw [← hC1]; exact st_one _ _ _ _
  rw [hC1]
  have HC1 := Lib.hid hC1
  clear hC1
  go_wp2_with (first
    | ((with_reducible show wpList _ _ _ ((⟨none, _, _, _, _, _⟩ : Oper) :: _) _ _); refine wpList_store_blk (o := ⟨none, _, _, _, _, _⟩) ((Blk.new w10 47 #[.int .i64 0, .int .i64 0, .int .i64 0, .bool false])) (by rfl) _ _ _ (by rfl) (by rfl) (C1) (by rfl) (sizeSt) (by rfl) (hC14) (hC1o) ?_; intro w11 h14 hu; have hbx := ((Below.refl w10.heap.size w10).alloc (Nat.le_refl _) (.cells #[.int .i64 0, .int .i64 0, .int .i64 0, .bool false] 47)).upd hu (Nat.le_refl _); (replace hm := keep hbx hm; replace hbb := keep hbx hbb; replace hbu := keep hbx hbu; replace hlb := keep hbx hlb; replace hB := hB.trans (hbx.mono hB.size)); clear hbx hu)
    | fail)
  have hG14 : s0 < w10.heap.size ∧ gb < w10.heap.size ∧ w.heap.size ≤ w10.heap.size := ⟨hG14a, hG14b, hG14c⟩
  obtain ⟨g14, hgg14⟩ : ∃ x, x = w10.heap.size := ⟨_, rfl⟩
  rw [← hgg14] at h14 hG14 ⊢
  clear hgg14
  have HG14 := Lib.hid hG14
  clear hG14 hG14a hG14b hG14c
  refine (sprep_any (some ⟨gl, 0, none⟩) 1280 capl LL n HLL.out.1.symm HLL.out.2.1 ⟨by omega, HLL.out.2.2⟩ w11 hlb).mono ?_
  rintro e w12 ⟨V, rfl, ⟨sp12, ho12⟩, hbx⟩
  (replace hm := keep hbx hm; replace hbb := keep hbx hbb; replace hbu := keep hbx hbu; replace h14 := keep hbx h14; replace hB := hB.trans (hbx.mono hB.size))
  clear hbx hlb
  obtain ⟨q, hq⟩ : ∃ x, x = (Slot.prep LL n).1 := ⟨_, rfl⟩
  obtain ⟨F, hF⟩ : ∃ x, x = (Slot.prep LL n).2.1 := ⟨_, rfl⟩
  obtain ⟨D, hD⟩ : ∃ x, x = (Slot.prep LL n).2.2 := ⟨_, rfl⟩
  rw [← hD] at ho12
  rw [← hq, ← hF]
  have HPR := Lib.hid (And.intro hq hF)
  clear hq hF hD
  obtain ⟨V2, vc, rfl, -⟩ := OwnB.open_ ho12
  have hl14 := h14.lt
  have HNE := Lib.hid (show s0 ≠ g14 ∧ gb ≠ g14 ∧ w.heap.size ≤ g14 by
    have h := HG14.out; omega)
  cases q
  · have hS := Slot.judge_left' LL n HNN.out.2 HPR.out.1.symm
    rw [← HUU.out.2, ← HS1.out] at hS
    rcases hS with hS | hS
    · have e4 := Lib.hid (show decide (S1 = (4, 0, 0, false)) = true by rw [decide_eq_true_eq]; exact hS)
      clear hS
      go_wp2_with (first
        | ((with_reducible show wpList _ _ _ ((⟨none, _, _, _, _, _⟩ : Oper) :: _) _ _); refine wpList_store_blk (o := ⟨none, _, _, _, _, _⟩) ((Blk.new w12 29 #[.int .i64 0, .int .i64 0, .int .i64 0, .int .i64 0, .int .i64 0, .int .i64 0, .int .i64 0, .int .i64 0, .int .i64 0, .int .u64 0, .int .u64 0, .int .i64 0, .int .i64 0, .int .u64 0, .int .i64 0, .int .i64 0, .slice none 0 0])) (by rfl) _ _ _ (by rfl) (by rfl) (msgc F (.slice V2 D.length vc)) (by rfl) (sizeMsg) (by rfl) (msgc_size _ _) (msgc_one _ _ rfl) ?_; intro w13 h15 hu; have hbx := ((Below.refl w12.heap.size w12).alloc (Nat.le_refl _) (.cells #[.int .i64 0, .int .i64 0, .int .i64 0, .int .i64 0, .int .i64 0, .int .i64 0, .int .i64 0, .int .i64 0, .int .i64 0, .int .u64 0, .int .u64 0, .int .i64 0, .int .i64 0, .int .u64 0, .int .i64 0, .int .i64 0, .slice none 0 0] 29)).upd hu (Nat.le_refl _); (replace hm := keep hbx hm; replace hbb := keep hbx hbb; replace hbu := keep hbx hbu; replace h14 := keep hbx h14; replace ho12 := keep hbx ho12; replace hB := hB.trans (hbx.mono hB.size)); clear hbx hu)
        | ((with_reducible show wpList _ _ _ ((⟨some 94, _, _, _, _, _⟩ : Oper) :: _) _ _); refine wpList_load_blk (o := ⟨some 94, _, _, _, _, _⟩) (h14) (by rfl) _ _ (by rfl) (by rfl) _ Tryd.underlying47 (by rfl) (sizeSt) (hC14) ?_)
        | ((with_reducible show wpList _ _ _ ((⟨some 96, _, _, _, _, _⟩ : Oper) :: _) _ _); refine wpList_run (o := ⟨some 96, _, _, _, _, _⟩) (.bool true) (by rfl) ((exec_eql_st _ _ _ _ (by rfl) S1 (4, 0, 0, false) (by exact HC1.out.symm) (by rfl)).trans (by rw [e4.out])) ?_)
        | fail)
      refine (part_any (some ⟨gu, 0, none⟩) (some ⟨gb, 0, none⟩) Bk 256 256 1280 dk U (B.take 256) ks tear (.inl rfl) HUU.out.1 (by rw [List.length_take, HBB.out.1]; rfl) (Nat.le_refl _) (by omega) HL.out.2 w13 hbu.bytes (hbb.bytes.take 256) (Reads.below hk0.out hB)).mono ?_
      rintro e w21 ⟨gc, capc, TC, rfl, -, hbc, hTc, hcc1, hcc2, hbx⟩
      (replace hm := keep hbx hm; replace hbb := keep hbx hbb; replace hbu := keep hbx hbu; replace h14 := keep hbx h14; replace hB := hB.trans (hbx.mono hB.size))
      clear hbx
      replace hbc := hbc.bytes.take 256
      have hcl : (TC.take 256).length = 256 := by rw [List.length_take, hTc]; omega
      obtain ⟨CUT, hCUT⟩ : ∃ x, x = TC.take 256 := ⟨_, rfl⟩
      rw [← hCUT] at hbc hcl
      have HCC := Lib.hid (And.intro hcl (And.intro hcc1 hcc2))
      clear hTc hcc1 hcc2 hCUT hcl
      go_wp2_with fail
      refine (hhead_any (some ⟨gc, 0, none⟩) 256 capc CUT HCC.out.1.symm HCC.out.2.1 HCC.out.2.2 w21 hbc).mono ?_
      rintro e w22 ⟨rfl, hbx⟩
      (replace hm := keep hbx hm; replace hbb := keep hbx hbb; replace hbu := keep hbx hbu; replace h14 := keep hbx h14; replace hbc := keep hbx hbc; replace hB := hB.trans (hbx.mono hB.size))
      clear hbx
      obtain ⟨G2, hG2⟩ : ∃ f, f = (Hd.read CUT).2 := ⟨_, rfl⟩
      obtain ⟨er, hE⟩ : ∃ f, f = (Hd.read CUT).1 := ⟨_, rfl⟩
      rw [← hG2, ← hE]
      have HER := Lib.hid hE
      clear hG2 hE
      by_cases h0 : er = 0
      case neg =>
        have hc0 : (er == 0) = false := by rw [beq_eq_false_iff_ne]; exact h0
        have HER0 := Lib.hid h0
        clear h0
        go_wp2_with (first
          | ((with_reducible show wpList _ _ _ ((⟨none, _, _, _, _, _⟩ : Oper) :: _) _ _); refine wpList_store_blk (o := ⟨none, _, _, _, _, _⟩) (((Blk.new w22 26 #[.int .i64 0, .int .i64 0, .int .i64 0, .int .i64 0, .int .i64 0, .int .i64 0, .int .i64 0, .int .i64 0, .int .i64 0, .int .u64 0, .int .u64 0, .int .i64 0, .int .i64 0, .int .u64 0, .int .i64 0, .int .i64 0]).sub zeroHd_cells.symm)) (by rfl) _ _ _ (by rfl) (by rfl) (hdc G2) (by rfl) (sizeHd) (hdc_size _) (hdc_size _) (hdc_one _) ?_; intro w23 h23 hu; have hbx := ((Below.refl w22.heap.size w22).alloc (Nat.le_refl _) (.cells #[.int .i64 0, .int .i64 0, .int .i64 0, .int .i64 0, .int .i64 0, .int .i64 0, .int .i64 0, .int .i64 0, .int .i64 0, .int .u64 0, .int .u64 0, .int .i64 0, .int .i64 0, .int .u64 0, .int .i64 0, .int .i64 0] 26)).upd hu (Nat.le_refl _); (replace hm := keep hbx hm; replace hbb := keep hbx hbb; replace hbu := keep hbx hbu; replace h14 := keep hbx h14; replace hbc := keep hbx hbc; replace hB := hB.trans (hbx.mono hB.size)); clear hbx hu h23)
          | fail)
        obtain ⟨mn, hj⟩ := Slot.judge_cut B CUT n FB l HNN.out.2 HBB.out.2.2.1 HBB.out.2.2.2.1 (.inl (by rw [← HER.out]; exact HER0.out))
        rw [HBB.out.2.2.2.2 5 (by omega), HBB.out.2.2.2.2 3 (by omega)] at hj
        have HJ := Lib.hid hj
        have HW := Lib.hid hbc
        clear hj hbu
        refine (judge_any (some ⟨gc, 0, none⟩) (some ⟨gb, 0, none⟩) 256 capc 1280 1280 CUT B n HNN.out.2 ⟨HCC.out.1.symm, HCC.out.2⟩ ⟨HBB.out.1.symm, Nat.le_refl _, by omega, by omega⟩ _ hbc hbb.bytes).mono ?_
        rintro e w31 ⟨rfl, hbx⟩
        (replace hm := keep hbx hm; replace hbb := keep hbx hbb; replace h14 := keep hbx h14; replace hB := hB.trans (hbx.mono hB.size))
        clear hbx hbc HW
        rw [HJ.out]
        go_wp2_with (first
          | ((with_reducible show wpList _ _ _ ((⟨none, _, _, _, _, _⟩ : Oper) :: _) _ _); refine wpList_store_blk (o := ⟨none, _, _, _, _, _⟩) h14 (by rfl) _ _ _ (by rfl) (by rfl) #[.int .i64 1, .int .i64 (fx 5), .int .i64 (fx 3), .bool mn] (by rfl) sizeSt hC14 (by rfl) (st_one _ _ _ _) ?_; intro w32 h32 hu; have hm := hm.upd hu HNE.out.1; have hbb := hbb.upd hu HNE.out.2.1; have hB := hB.upd hu HNE.out.2.2; clear hu)
          | fail)
        refine (sprep_any (some ⟨gb, 0, none⟩) 1280 1280 B n HBB.out.1.symm (Nat.le_refl _) ⟨by omega, by omega⟩ w32 hbb.bytes).mono ?_
        rw [HBB.out.2.2.1]
        dsimp only
        rintro e w33 ⟨V3, rfl, ⟨sp33, ho33⟩, hbx⟩
        (replace hm := keep hbx hm; replace h32 := keep hbx h32; replace hB := hB.trans (hbx.mono hB.size))
        clear hbx hbb
        obtain ⟨V4, vc4, rfl, -⟩ := OwnB.open_ ho33
        go_wp2_with (first
          | ((with_reducible show wpList _ _ _ ((⟨none, _, _, _, _, _⟩ : Oper) :: _) _ _); refine wpList_store_blk (o := ⟨none, _, _, _, _, _⟩) ((Blk.new w33 29 #[.int .i64 0, .int .i64 0, .int .i64 0, .int .i64 0, .int .i64 0, .int .i64 0, .int .i64 0, .int .i64 0, .int .i64 0, .int .u64 0, .int .u64 0, .int .i64 0, .int .i64 0, .int .u64 0, .int .i64 0, .int .i64 0, .slice none 0 0])) (by rfl) _ _ _ (by rfl) (by rfl) (msgc FB (.slice V4 l.length vc4)) (by rfl) (sizeMsg) (by rfl) (msgc_size _ _) (msgc_one _ _ rfl) ?_; intro w34 h34 hu; have hbx := ((Below.refl w33.heap.size w33).alloc (Nat.le_refl _) (.cells #[.int .i64 0, .int .i64 0, .int .i64 0, .int .i64 0, .int .i64 0, .int .i64 0, .int .i64 0, .int .i64 0, .int .i64 0, .int .u64 0, .int .u64 0, .int .i64 0, .int .i64 0, .int .u64 0, .int .i64 0, .int .i64 0, .slice none 0 0] 29)).upd hu (Nat.le_refl _); (replace hm := keep hbx hm; replace h32 := keep hbx h32; replace ho33 := keep hbx ho33; replace hB := hB.trans (hbx.mono hB.size)); clear hbx hu; have e0 := h32.at_ 0 rfl; have e1 := h32.at_ 1 rfl; have e2 := h32.at_ 2 rfl; have d5 := hm.at_ 5 (msgc_at fx _ 5 (by omega)); have d3 := hm.at_ 3 (msgc_at fx _ 3 (by omega)))
          | ((with_reducible show wpList _ _ _ ((⟨some 161, _, _, _, _, _⟩ : Oper) :: _) _ _); refine wpList_want (by rfl) ?_; refine wpList_load_blk (o := ⟨some 161, _, _, _, _, _⟩) (h34) (by rfl) _ _ (by rfl) (by rfl) _ Tryd.underlying29 (by rfl) (sizeMsg) (msgc_size _ _) ?_)
          | ((with_reducible show wpList _ _ _ ((⟨some 162, _, _, _, _, _⟩ : Oper) :: _) _ _); refine wpList_want (by rfl) ?_; refine wpList_load_blk (o := ⟨some 162, _, _, _, _, _⟩) (hm) (by rfl) _ _ (by rfl) (by rfl) _ Tryd.underlying29 (by rfl) (sizeMsg) (msgc_size _ _) ?_)
          | fail)
        refine (sameMessage_any FB fx V4 A l.length l.length vc4 c l l rfl rfl _ (OwnB.bytes ho33) (Bytes.below hby0.out hB)).mono ?_
        rintro e w35 ⟨rfl, hbx⟩
        have HB := Lib.hid (hB.trans (hbx.mono hB.size))
        replace e0 := (hbx.cell (World.block_lt_of_cell? _ _ e0)).trans e0
        replace e1 := (hbx.cell (World.block_lt_of_cell? _ _ e1)).trans e1
        replace e2 := (hbx.cell (World.block_lt_of_cell? _ _ e2)).trans e2
        replace d5 := (hbx.cell (World.block_lt_of_cell? _ _ d5)).trans d5
        replace d3 := (hbx.cell (World.block_lt_of_cell? _ _ d3)).trans d3
        rw [(Hd.beq_same FB fx).2 HBB.out.2.2.2.2, decide_eq_true rfl]
        clear hbx hB hm h32 h34 ho33
        go_wp2
        go_ret
        exact ⟨by simp, HB.out⟩
      subst h0
      go_wp2_with (first
        | ((with_reducible show wpList _ _ _ ((⟨none, _, _, _, _, _⟩ : Oper) :: _) _ _); refine wpList_store_blk (o := ⟨none, _, _, _, _, _⟩) (((Blk.new w22 26 #[.int .i64 0, .int .i64 0, .int .i64 0, .int .i64 0, .int .i64 0, .int .i64 0, .int .i64 0, .int .i64 0, .int .i64 0, .int .u64 0, .int .u64 0, .int .i64 0, .int .i64 0, .int .u64 0, .int .i64 0, .int .i64 0]).sub zeroHd_cells.symm)) (by rfl) _ _ _ (by rfl) (by rfl) (hdc G2) (by rfl) (sizeHd) (hdc_size _) (hdc_size _) (hdc_one _) ?_; intro w23 h23 hu; have hbx := ((Below.refl w22.heap.size w22).alloc (Nat.le_refl _) (.cells #[.int .i64 0, .int .i64 0, .int .i64 0, .int .i64 0, .int .i64 0, .int .i64 0, .int .i64 0, .int .i64 0, .int .i64 0, .int .u64 0, .int .u64 0, .int .i64 0, .int .i64 0, .int .u64 0, .int .i64 0, .int .i64 0] 26)).upd hu (Nat.le_refl _); (replace hm := keep hbx hm; replace hbb := keep hbx hbb; replace hbu := keep hbx hbu; replace h14 := keep hbx h14; replace hbc := keep hbx hbc; replace hB := hB.trans (hbx.mono hB.size)); clear hbx hu h23)
        | fail)
      refine (sameBytes_any (some ⟨gc, 0, none⟩) (some ⟨gu, 0, none⟩) 256 256 capc 256 CUT U HCC.out.1.symm HUU.out.1.symm w23 hbc hbu.bytes).mono ?_
      rintro e w24 ⟨rfl, hw24⟩
      rw [← hw24] at hm hbb hbu h14 hbc hB
      clear hw24
      by_cases hcu : CUT = U
      · rw [decide_eq_true hcu]
        have HCU := Lib.hid (show CUT = Hd.bytes (Slot.fU n) [] by rw [hcu, HUU.out.2])
        clear hcu
        obtain ⟨mn, hj⟩ := Slot.judge_cut B CUT n FB l HNN.out.2 HBB.out.2.2.1 HBB.out.2.2.2.1 (.inr (.inl HCU.out))
        rw [HBB.out.2.2.2.2 5 (by omega), HBB.out.2.2.2.2 3 (by omega)] at hj
        have HJ := Lib.hid hj
        have HW := Lib.hid hbc
        clear hj hbu
        go_wp2_with fail
        refine (judge_any (some ⟨gc, 0, none⟩) (some ⟨gb, 0, none⟩) 256 capc 1280 1280 CUT B n HNN.out.2 ⟨HCC.out.1.symm, HCC.out.2⟩ ⟨HBB.out.1.symm, Nat.le_refl _, by omega, by omega⟩ _ hbc hbb.bytes).mono ?_
        rintro e w31 ⟨rfl, hbx⟩
        (replace hm := keep hbx hm; replace hbb := keep hbx hbb; replace h14 := keep hbx h14; replace hB := hB.trans (hbx.mono hB.size))
        clear hbx hbc HW
        rw [HJ.out]
        go_wp2_with (first
          | ((with_reducible show wpList _ _ _ ((⟨none, _, _, _, _, _⟩ : Oper) :: _) _ _); refine wpList_store_blk (o := ⟨none, _, _, _, _, _⟩) h14 (by rfl) _ _ _ (by rfl) (by rfl) #[.int .i64 1, .int .i64 (fx 5), .int .i64 (fx 3), .bool mn] (by rfl) sizeSt hC14 (by rfl) (st_one _ _ _ _) ?_; intro w32 h32 hu; have hm := hm.upd hu HNE.out.1; have hbb := hbb.upd hu HNE.out.2.1; have hB := hB.upd hu HNE.out.2.2; clear hu)
          | fail)
        refine (sprep_any (some ⟨gb, 0, none⟩) 1280 1280 B n HBB.out.1.symm (Nat.le_refl _) ⟨by omega, by omega⟩ w32 hbb.bytes).mono ?_
        rw [HBB.out.2.2.1]
        dsimp only
        rintro e w33 ⟨V3, rfl, ⟨sp33, ho33⟩, hbx⟩
        (replace hm := keep hbx hm; replace h32 := keep hbx h32; replace hB := hB.trans (hbx.mono hB.size))
        clear hbx hbb
        obtain ⟨V4, vc4, rfl, -⟩ := OwnB.open_ ho33
        go_wp2_with (first
          | ((with_reducible show wpList _ _ _ ((⟨none, _, _, _, _, _⟩ : Oper) :: _) _ _); refine wpList_store_blk (o := ⟨none, _, _, _, _, _⟩) ((Blk.new w33 29 #[.int .i64 0, .int .i64 0, .int .i64 0, .int .i64 0, .int .i64 0, .int .i64 0, .int .i64 0, .int .i64 0, .int .i64 0, .int .u64 0, .int .u64 0, .int .i64 0, .int .i64 0, .int .u64 0, .int .i64 0, .int .i64 0, .slice none 0 0])) (by rfl) _ _ _ (by rfl) (by rfl) (msgc FB (.slice V4 l.length vc4)) (by rfl) (sizeMsg) (by rfl) (msgc_size _ _) (msgc_one _ _ rfl) ?_; intro w34 h34 hu; have hbx := ((Below.refl w33.heap.size w33).alloc (Nat.le_refl _) (.cells #[.int .i64 0, .int .i64 0, .int .i64 0, .int .i64 0, .int .i64 0, .int .i64 0, .int .i64 0, .int .i64 0, .int .i64 0, .int .u64 0, .int .u64 0, .int .i64 0, .int .i64 0, .int .u64 0, .int .i64 0, .int .i64 0, .slice none 0 0] 29)).upd hu (Nat.le_refl _); (replace hm := keep hbx hm; replace h32 := keep hbx h32; replace ho33 := keep hbx ho33; replace hB := hB.trans (hbx.mono hB.size)); clear hbx hu; have e0 := h32.at_ 0 rfl; have e1 := h32.at_ 1 rfl; have e2 := h32.at_ 2 rfl; have d5 := hm.at_ 5 (msgc_at fx _ 5 (by omega)); have d3 := hm.at_ 3 (msgc_at fx _ 3 (by omega)))
          | ((with_reducible show wpList _ _ _ ((⟨some 161, _, _, _, _, _⟩ : Oper) :: _) _ _); refine wpList_want (by rfl) ?_; refine wpList_load_blk (o := ⟨some 161, _, _, _, _, _⟩) (h34) (by rfl) _ _ (by rfl) (by rfl) _ Tryd.underlying29 (by rfl) (sizeMsg) (msgc_size _ _) ?_)
          | ((with_reducible show wpList _ _ _ ((⟨some 162, _, _, _, _, _⟩ : Oper) :: _) _ _); refine wpList_want (by rfl) ?_; refine wpList_load_blk (o := ⟨some 162, _, _, _, _, _⟩) (hm) (by rfl) _ _ (by rfl) (by rfl) _ Tryd.underlying29 (by rfl) (sizeMsg) (msgc_size _ _) ?_)
          | fail)
        refine (sameMessage_any FB fx V4 A l.length l.length vc4 c l l rfl rfl _ (OwnB.bytes ho33) (Bytes.below hby0.out hB)).mono ?_
        rintro e w35 ⟨rfl, hbx⟩
        have HB := Lib.hid (hB.trans (hbx.mono hB.size))
        replace e0 := (hbx.cell (World.block_lt_of_cell? _ _ e0)).trans e0
        replace e1 := (hbx.cell (World.block_lt_of_cell? _ _ e1)).trans e1
        replace e2 := (hbx.cell (World.block_lt_of_cell? _ _ e2)).trans e2
        replace d5 := (hbx.cell (World.block_lt_of_cell? _ _ d5)).trans d5
        replace d3 := (hbx.cell (World.block_lt_of_cell? _ _ d3)).trans d3
        rw [(Hd.beq_same FB fx).2 HBB.out.2.2.2.2, decide_eq_true rfl]
        clear hbx hB hm h32 h34 ho33
        go_wp2
        go_ret
        exact ⟨by simp, HB.out⟩
      rw [decide_eq_false hcu]
      clear hcu
      go_wp2_with fail
      refine (sameBytes_any (some ⟨gc, 0, none⟩) (some ⟨gb, 0, none⟩) 256 256 capc 1280 CUT (B.take 256) HCC.out.1.symm (by rw [List.length_take, HBB.out.1]; rfl) w24 hbc (hbb.bytes.take 256)).mono ?_
      rintro e w25 ⟨rfl, hw25⟩
      rw [← hw25] at hm hbb hbu h14 hbc hB
      clear hw25
      by_cases hcb : CUT = B.take 256
      · rw [decide_eq_true hcb]
        have HCB2 := Lib.hid hcb
        clear hcb
        obtain ⟨mn, hj⟩ := Slot.judge_cut B CUT n FB l HNN.out.2 HBB.out.2.2.1 HBB.out.2.2.2.1 (.inr (.inr HCB2.out))
        rw [HBB.out.2.2.2.2 5 (by omega), HBB.out.2.2.2.2 3 (by omega)] at hj
        have HJ := Lib.hid hj
        have HW := Lib.hid hbc
        clear hj hbu
        go_wp2_with fail
        refine (judge_any (some ⟨gc, 0, none⟩) (some ⟨gb, 0, none⟩) 256 capc 1280 1280 CUT B n HNN.out.2 ⟨HCC.out.1.symm, HCC.out.2⟩ ⟨HBB.out.1.symm, Nat.le_refl _, by omega, by omega⟩ _ hbc hbb.bytes).mono ?_
        rintro e w31 ⟨rfl, hbx⟩
        (replace hm := keep hbx hm; replace hbb := keep hbx hbb; replace h14 := keep hbx h14; replace hB := hB.trans (hbx.mono hB.size))
        clear hbx hbc HW
        rw [HJ.out]
        go_wp2_with (first
          | ((with_reducible show wpList _ _ _ ((⟨none, _, _, _, _, _⟩ : Oper) :: _) _ _); refine wpList_store_blk (o := ⟨none, _, _, _, _, _⟩) h14 (by rfl) _ _ _ (by rfl) (by rfl) #[.int .i64 1, .int .i64 (fx 5), .int .i64 (fx 3), .bool mn] (by rfl) sizeSt hC14 (by rfl) (st_one _ _ _ _) ?_; intro w32 h32 hu; have hm := hm.upd hu HNE.out.1; have hbb := hbb.upd hu HNE.out.2.1; have hB := hB.upd hu HNE.out.2.2; clear hu)
          | fail)
        refine (sprep_any (some ⟨gb, 0, none⟩) 1280 1280 B n HBB.out.1.symm (Nat.le_refl _) ⟨by omega, by omega⟩ w32 hbb.bytes).mono ?_
        rw [HBB.out.2.2.1]
        dsimp only
        rintro e w33 ⟨V3, rfl, ⟨sp33, ho33⟩, hbx⟩
        (replace hm := keep hbx hm; replace h32 := keep hbx h32; replace hB := hB.trans (hbx.mono hB.size))
        clear hbx hbb
        obtain ⟨V4, vc4, rfl, -⟩ := OwnB.open_ ho33
        go_wp2_with (first
          | ((with_reducible show wpList _ _ _ ((⟨none, _, _, _, _, _⟩ : Oper) :: _) _ _); refine wpList_store_blk (o := ⟨none, _, _, _, _, _⟩) ((Blk.new w33 29 #[.int .i64 0, .int .i64 0, .int .i64 0, .int .i64 0, .int .i64 0, .int .i64 0, .int .i64 0, .int .i64 0, .int .i64 0, .int .u64 0, .int .u64 0, .int .i64 0, .int .i64 0, .int .u64 0, .int .i64 0, .int .i64 0, .slice none 0 0])) (by rfl) _ _ _ (by rfl) (by rfl) (msgc FB (.slice V4 l.length vc4)) (by rfl) (sizeMsg) (by rfl) (msgc_size _ _) (msgc_one _ _ rfl) ?_; intro w34 h34 hu; have hbx := ((Below.refl w33.heap.size w33).alloc (Nat.le_refl _) (.cells #[.int .i64 0, .int .i64 0, .int .i64 0, .int .i64 0, .int .i64 0, .int .i64 0, .int .i64 0, .int .i64 0, .int .i64 0, .int .u64 0, .int .u64 0, .int .i64 0, .int .i64 0, .int .u64 0, .int .i64 0, .int .i64 0, .slice none 0 0] 29)).upd hu (Nat.le_refl _); (replace hm := keep hbx hm; replace h32 := keep hbx h32; replace ho33 := keep hbx ho33; replace hB := hB.trans (hbx.mono hB.size)); clear hbx hu; have e0 := h32.at_ 0 rfl; have e1 := h32.at_ 1 rfl; have e2 := h32.at_ 2 rfl; have d5 := hm.at_ 5 (msgc_at fx _ 5 (by omega)); have d3 := hm.at_ 3 (msgc_at fx _ 3 (by omega)))
          | ((with_reducible show wpList _ _ _ ((⟨some 161, _, _, _, _, _⟩ : Oper) :: _) _ _); refine wpList_want (by rfl) ?_; refine wpList_load_blk (o := ⟨some 161, _, _, _, _, _⟩) (h34) (by rfl) _ _ (by rfl) (by rfl) _ Tryd.underlying29 (by rfl) (sizeMsg) (msgc_size _ _) ?_)
          | ((with_reducible show wpList _ _ _ ((⟨some 162, _, _, _, _, _⟩ : Oper) :: _) _ _); refine wpList_want (by rfl) ?_; refine wpList_load_blk (o := ⟨some 162, _, _, _, _, _⟩) (hm) (by rfl) _ _ (by rfl) (by rfl) _ Tryd.underlying29 (by rfl) (sizeMsg) (msgc_size _ _) ?_)
          | fail)
        refine (sameMessage_any FB fx V4 A l.length l.length vc4 c l l rfl rfl _ (OwnB.bytes ho33) (Bytes.below hby0.out hB)).mono ?_
        rintro e w35 ⟨rfl, hbx⟩
        have HB := Lib.hid (hB.trans (hbx.mono hB.size))
        replace e0 := (hbx.cell (World.block_lt_of_cell? _ _ e0)).trans e0
        replace e1 := (hbx.cell (World.block_lt_of_cell? _ _ e1)).trans e1
        replace e2 := (hbx.cell (World.block_lt_of_cell? _ _ e2)).trans e2
        replace d5 := (hbx.cell (World.block_lt_of_cell? _ _ d5)).trans d5
        replace d3 := (hbx.cell (World.block_lt_of_cell? _ _ d3)).trans d3
        rw [(Hd.beq_same FB fx).2 HBB.out.2.2.2.2, decide_eq_true rfl]
        clear hbx hB hm h32 h34 ho33
        go_wp2
        go_ret
        exact ⟨by simp, HB.out⟩
      rw [decide_eq_false hcb]
      have HB := Lib.hid hB
      clear hcb hm hbb hbu h14 hbc hB
      go_wp2
      go_ret
      exact ⟨rfl, HB.out⟩
    · have e4 := Lib.hid (show decide (S1 = (4, 0, 0, false)) = false by rw [decide_eq_false_iff_not, hS]; decide)
      have e2 := Lib.hid (show decide (S1 = (2, 0, 0, false)) = true by rw [decide_eq_true_eq]; exact hS)
      clear hS
      go_wp2_with (first
        | ((with_reducible show wpList _ _ _ ((⟨none, _, _, _, _, _⟩ : Oper) :: _) _ _); refine wpList_store_blk (o := ⟨none, _, _, _, _, _⟩) ((Blk.new w12 29 #[.int .i64 0, .int .i64 0, .int .i64 0, .int .i64 0, .int .i64 0, .int .i64 0, .int .i64 0, .int .i64 0, .int .i64 0, .int .u64 0, .int .u64 0, .int .i64 0, .int .i64 0, .int .u64 0, .int .i64 0, .int .i64 0, .slice none 0 0])) (by rfl) _ _ _ (by rfl) (by rfl) (msgc F (.slice V2 D.length vc)) (by rfl) (sizeMsg) (by rfl) (msgc_size _ _) (msgc_one _ _ rfl) ?_; intro w13 h15 hu; have hbx := ((Below.refl w12.heap.size w12).alloc (Nat.le_refl _) (.cells #[.int .i64 0, .int .i64 0, .int .i64 0, .int .i64 0, .int .i64 0, .int .i64 0, .int .i64 0, .int .i64 0, .int .i64 0, .int .u64 0, .int .u64 0, .int .i64 0, .int .i64 0, .int .u64 0, .int .i64 0, .int .i64 0, .slice none 0 0] 29)).upd hu (Nat.le_refl _); (replace hm := keep hbx hm; replace hbb := keep hbx hbb; replace hbu := keep hbx hbu; replace h14 := keep hbx h14; replace ho12 := keep hbx ho12; replace hB := hB.trans (hbx.mono hB.size)); clear hbx hu)
        | ((with_reducible show wpList _ _ _ ((⟨some 94, _, _, _, _, _⟩ : Oper) :: _) _ _); refine wpList_load_blk (o := ⟨some 94, _, _, _, _, _⟩) (h14) (by rfl) _ _ (by rfl) (by rfl) _ Tryd.underlying47 (by rfl) (sizeSt) (hC14) ?_)
        | ((with_reducible show wpList _ _ _ ((⟨some 98, _, _, _, _, _⟩ : Oper) :: _) _ _); refine wpList_want (by rfl) ?_; refine wpList_load_blk (o := ⟨some 98, _, _, _, _, _⟩) (h14) (by rfl) _ _ (by rfl) (by rfl) _ Tryd.underlying47 (by rfl) (sizeSt) (hC14) ?_)
        | ((with_reducible show wpList _ _ _ ((⟨some 96, _, _, _, _, _⟩ : Oper) :: _) _ _); refine wpList_run (o := ⟨some 96, _, _, _, _, _⟩) (.bool false) (by rfl) ((exec_eql_st _ _ _ _ (by rfl) S1 (4, 0, 0, false) (by exact HC1.out.symm) (by rfl)).trans (by rw [e4.out])) ?_)
        | ((with_reducible show wpList _ _ _ ((⟨some 100, _, _, _, _, _⟩ : Oper) :: _) _ _); refine wpList_want (by rfl) ?_; refine wpList_run (o := ⟨some 100, _, _, _, _, _⟩) (.bool true) (by rfl) ((exec_eql_st _ _ _ _ (by rfl) S1 (2, 0, 0, false) (by exact HC1.out.symm) (by rfl)).trans (by rw [e2.out])) ?_)
        | fail)
      refine (part_any (some ⟨gu, 0, none⟩) (some ⟨gb, 0, none⟩) Bk 256 256 1280 dk U (B.take 256) ks tear (.inl rfl) HUU.out.1 (by rw [List.length_take, HBB.out.1]; rfl) (Nat.le_refl _) (by omega) HL.out.2 w13 hbu.bytes (hbb.bytes.take 256) (Reads.below hk0.out hB)).mono ?_
      rintro e w21 ⟨gc, capc, TC, rfl, -, hbc, hTc, hcc1, hcc2, hbx⟩
      (replace hm := keep hbx hm; replace hbb := keep hbx hbb; replace hbu := keep hbx hbu; replace h14 := keep hbx h14; replace hB := hB.trans (hbx.mono hB.size))
      clear hbx
      replace hbc := hbc.bytes.take 256
      have hcl : (TC.take 256).length = 256 := by rw [List.length_take, hTc]; omega
      obtain ⟨CUT, hCUT⟩ : ∃ x, x = TC.take 256 := ⟨_, rfl⟩
      rw [← hCUT] at hbc hcl
      have HCC := Lib.hid (And.intro hcl (And.intro hcc1 hcc2))
      clear hTc hcc1 hcc2 hCUT hcl
      go_wp2_with fail
      refine (hhead_any (some ⟨gc, 0, none⟩) 256 capc CUT HCC.out.1.symm HCC.out.2.1 HCC.out.2.2 w21 hbc).mono ?_
      rintro e w22 ⟨rfl, hbx⟩
      (replace hm := keep hbx hm; replace hbb := keep hbx hbb; replace hbu := keep hbx hbu; replace h14 := keep hbx h14; replace hbc := keep hbx hbc; replace hB := hB.trans (hbx.mono hB.size))
      clear hbx
      obtain ⟨G2, hG2⟩ : ∃ f, f = (Hd.read CUT).2 := ⟨_, rfl⟩
      obtain ⟨er, hE⟩ : ∃ f, f = (Hd.read CUT).1 := ⟨_, rfl⟩
      rw [← hG2, ← hE]
      have HER := Lib.hid hE
      clear hG2 hE
      by_cases h0 : er = 0
      case neg =>
        have hc0 : (er == 0) = false := by rw [beq_eq_false_iff_ne]; exact h0
        have HER0 := Lib.hid h0
        clear h0
        go_wp2_with (first
          | ((with_reducible show wpList _ _ _ ((⟨none, _, _, _, _, _⟩ : Oper) :: _) _ _); refine wpList_store_blk (o := ⟨none, _, _, _, _, _⟩) (((Blk.new w22 26 #[.int .i64 0, .int .i64 0, .int .i64 0, .int .i64 0, .int .i64 0, .int .i64 0, .int .i64 0, .int .i64 0, .int .i64 0, .int .u64 0, .int .u64 0, .int .i64 0, .int .i64 0, .int .u64 0, .int .i64 0, .int .i64 0]).sub zeroHd_cells.symm)) (by rfl) _ _ _ (by rfl) (by rfl) (hdc G2) (by rfl) (sizeHd) (hdc_size _) (hdc_size _) (hdc_one _) ?_; intro w23 h23 hu; have hbx := ((Below.refl w22.heap.size w22).alloc (Nat.le_refl _) (.cells #[.int .i64 0, .int .i64 0, .int .i64 0, .int .i64 0, .int .i64 0, .int .i64 0, .int .i64 0, .int .i64 0, .int .i64 0, .int .u64 0, .int .u64 0, .int .i64 0, .int .i64 0, .int .u64 0, .int .i64 0, .int .i64 0] 26)).upd hu (Nat.le_refl _); (replace hm := keep hbx hm; replace hbb := keep hbx hbb; replace hbu := keep hbx hbu; replace h14 := keep hbx h14; replace hbc := keep hbx hbc; replace hB := hB.trans (hbx.mono hB.size)); clear hbx hu h23)
          | fail)
        obtain ⟨mn, hj⟩ := Slot.judge_cut B CUT n FB l HNN.out.2 HBB.out.2.2.1 HBB.out.2.2.2.1 (.inl (by rw [← HER.out]; exact HER0.out))
        rw [HBB.out.2.2.2.2 5 (by omega), HBB.out.2.2.2.2 3 (by omega)] at hj
        have HJ := Lib.hid hj
        have HW := Lib.hid hbc
        clear hj hbu
        refine (judge_any (some ⟨gc, 0, none⟩) (some ⟨gb, 0, none⟩) 256 capc 1280 1280 CUT B n HNN.out.2 ⟨HCC.out.1.symm, HCC.out.2⟩ ⟨HBB.out.1.symm, Nat.le_refl _, by omega, by omega⟩ _ hbc hbb.bytes).mono ?_
        rintro e w31 ⟨rfl, hbx⟩
        (replace hm := keep hbx hm; replace hbb := keep hbx hbb; replace h14 := keep hbx h14; replace hB := hB.trans (hbx.mono hB.size))
        clear hbx hbc HW
        rw [HJ.out]
        go_wp2_with (first
          | ((with_reducible show wpList _ _ _ ((⟨none, _, _, _, _, _⟩ : Oper) :: _) _ _); refine wpList_store_blk (o := ⟨none, _, _, _, _, _⟩) h14 (by rfl) _ _ _ (by rfl) (by rfl) #[.int .i64 1, .int .i64 (fx 5), .int .i64 (fx 3), .bool mn] (by rfl) sizeSt hC14 (by rfl) (st_one _ _ _ _) ?_; intro w32 h32 hu; have hm := hm.upd hu HNE.out.1; have hbb := hbb.upd hu HNE.out.2.1; have hB := hB.upd hu HNE.out.2.2; clear hu)
          | fail)
        refine (sprep_any (some ⟨gb, 0, none⟩) 1280 1280 B n HBB.out.1.symm (Nat.le_refl _) ⟨by omega, by omega⟩ w32 hbb.bytes).mono ?_
        rw [HBB.out.2.2.1]
        dsimp only
        rintro e w33 ⟨V3, rfl, ⟨sp33, ho33⟩, hbx⟩
        (replace hm := keep hbx hm; replace h32 := keep hbx h32; replace hB := hB.trans (hbx.mono hB.size))
        clear hbx hbb
        obtain ⟨V4, vc4, rfl, -⟩ := OwnB.open_ ho33
        go_wp2_with (first
          | ((with_reducible show wpList _ _ _ ((⟨none, _, _, _, _, _⟩ : Oper) :: _) _ _); refine wpList_store_blk (o := ⟨none, _, _, _, _, _⟩) ((Blk.new w33 29 #[.int .i64 0, .int .i64 0, .int .i64 0, .int .i64 0, .int .i64 0, .int .i64 0, .int .i64 0, .int .i64 0, .int .i64 0, .int .u64 0, .int .u64 0, .int .i64 0, .int .i64 0, .int .u64 0, .int .i64 0, .int .i64 0, .slice none 0 0])) (by rfl) _ _ _ (by rfl) (by rfl) (msgc FB (.slice V4 l.length vc4)) (by rfl) (sizeMsg) (by rfl) (msgc_size _ _) (msgc_one _ _ rfl) ?_; intro w34 h34 hu; have hbx := ((Below.refl w33.heap.size w33).alloc (Nat.le_refl _) (.cells #[.int .i64 0, .int .i64 0, .int .i64 0, .int .i64 0, .int .i64 0, .int .i64 0, .int .i64 0, .int .i64 0, .int .i64 0, .int .u64 0, .int .u64 0, .int .i64 0, .int .i64 0, .int .u64 0, .int .i64 0, .int .i64 0, .slice none 0 0] 29)).upd hu (Nat.le_refl _); (replace hm := keep hbx hm; replace h32 := keep hbx h32; replace ho33 := keep hbx ho33; replace hB := hB.trans (hbx.mono hB.size)); clear hbx hu; have e0 := h32.at_ 0 rfl; have e1 := h32.at_ 1 rfl; have e2 := h32.at_ 2 rfl; have d5 := hm.at_ 5 (msgc_at fx _ 5 (by omega)); have d3 := hm.at_ 3 (msgc_at fx _ 3 (by omega)))
          | ((with_reducible show wpList _ _ _ ((⟨some 161, _, _, _, _, _⟩ : Oper) :: _) _ _); refine wpList_want (by rfl) ?_; refine wpList_load_blk (o := ⟨some 161, _, _, _, _, _⟩) (h34) (by rfl) _ _ (by rfl) (by rfl) _ Tryd.underlying29 (by rfl) (sizeMsg) (msgc_size _ _) ?_)
          | ((with_reducible show wpList _ _ _ ((⟨some 162, _, _, _, _, _⟩ : Oper) :: _) _ _); refine wpList_want (by rfl) ?_; refine wpList_load_blk (o := ⟨some 162, _, _, _, _, _⟩) (hm) (by rfl) _ _ (by rfl) (by rfl) _ Tryd.underlying29 (by rfl) (sizeMsg) (msgc_size _ _) ?_)
          | fail)
        refine (sameMessage_any FB fx V4 A l.length l.length vc4 c l l rfl rfl _ (OwnB.bytes ho33) (Bytes.below hby0.out hB)).mono ?_
        rintro e w35 ⟨rfl, hbx⟩
        have HB := Lib.hid (hB.trans (hbx.mono hB.size))
        replace e0 := (hbx.cell (World.block_lt_of_cell? _ _ e0)).trans e0
        replace e1 := (hbx.cell (World.block_lt_of_cell? _ _ e1)).trans e1
        replace e2 := (hbx.cell (World.block_lt_of_cell? _ _ e2)).trans e2
        replace d5 := (hbx.cell (World.block_lt_of_cell? _ _ d5)).trans d5
        replace d3 := (hbx.cell (World.block_lt_of_cell? _ _ d3)).trans d3
        rw [(Hd.beq_same FB fx).2 HBB.out.2.2.2.2, decide_eq_true rfl]
        clear hbx hB hm h32 h34 ho33
        go_wp2
        go_ret
        exact ⟨by simp, HB.out⟩
      subst h0
      go_wp2_with (first
        | ((with_reducible show wpList _ _ _ ((⟨none, _, _, _, _, _⟩ : Oper) :: _) _ _); refine wpList_store_blk (o := ⟨none, _, _, _, _, _⟩) (((Blk.new w22 26 #[.int .i64 0, .int .i64 0, .int .i64 0, .int .i64 0, .int .i64 0, .int .i64 0, .int .i64 0, .int .i64 0, .int .i64 0, .int .u64 0, .int .u64 0, .int .i64 0, .int .i64 0, .int .u64 0, .int .i64 0, .int .i64 0]).sub zeroHd_cells.symm)) (by rfl) _ _ _ (by rfl) (by rfl) (hdc G2) (by rfl) (sizeHd) (hdc_size _) (hdc_size _) (hdc_one _) ?_; intro w23 h23 hu; have hbx := ((Below.refl w22.heap.size w22).alloc (Nat.le_refl _) (.cells #[.int .i64 0, .int .i64 0, .int .i64 0, .int .i64 0, .int .i64 0, .int .i64 0, .int .i64 0, .int .i64 0, .int .i64 0, .int .u64 0, .int .u64 0, .int .i64 0, .int .i64 0, .int .u64 0, .int .i64 0, .int .i64 0] 26)).upd hu (Nat.le_refl _); (replace hm := keep hbx hm; replace hbb := keep hbx hbb; replace hbu := keep hbx hbu; replace h14 := keep hbx h14; replace hbc := keep hbx hbc; replace hB := hB.trans (hbx.mono hB.size)); clear hbx hu h23)
        | fail)
      refine (sameBytes_any (some ⟨gc, 0, none⟩) (some ⟨gu, 0, none⟩) 256 256 capc 256 CUT U HCC.out.1.symm HUU.out.1.symm w23 hbc hbu.bytes).mono ?_
      rintro e w24 ⟨rfl, hw24⟩
      rw [← hw24] at hm hbb hbu h14 hbc hB
      clear hw24
      by_cases hcu : CUT = U
      · rw [decide_eq_true hcu]
        have HCU := Lib.hid (show CUT = Hd.bytes (Slot.fU n) [] by rw [hcu, HUU.out.2])
        clear hcu
        obtain ⟨mn, hj⟩ := Slot.judge_cut B CUT n FB l HNN.out.2 HBB.out.2.2.1 HBB.out.2.2.2.1 (.inr (.inl HCU.out))
        rw [HBB.out.2.2.2.2 5 (by omega), HBB.out.2.2.2.2 3 (by omega)] at hj
        have HJ := Lib.hid hj
        have HW := Lib.hid hbc
        clear hj hbu
        go_wp2_with fail
        refine (judge_any (some ⟨gc, 0, none⟩) (some ⟨gb, 0, none⟩) 256 capc 1280 1280 CUT B n HNN.out.2 ⟨HCC.out.1.symm, HCC.out.2⟩ ⟨HBB.out.1.symm, Nat.le_refl _, by omega, by omega⟩ _ hbc hbb.bytes).mono ?_
        rintro e w31 ⟨rfl, hbx⟩
        (replace hm := keep hbx hm; replace hbb := keep hbx hbb; replace h14 := keep hbx h14; replace hB := hB.trans (hbx.mono hB.size))
        clear hbx hbc HW
        rw [HJ.out]
        go_wp2_with (first
          | ((with_reducible show wpList _ _ _ ((⟨none, _, _, _, _, _⟩ : Oper) :: _) _ _); refine wpList_store_blk (o := ⟨none, _, _, _, _, _⟩) h14 (by rfl) _ _ _ (by rfl) (by rfl) #[.int .i64 1, .int .i64 (fx 5), .int .i64 (fx 3), .bool mn] (by rfl) sizeSt hC14 (by rfl) (st_one _ _ _ _) ?_; intro w32 h32 hu; have hm := hm.upd hu HNE.out.1; have hbb := hbb.upd hu HNE.out.2.1; have hB := hB.upd hu HNE.out.2.2; clear hu)
          | fail)
        refine (sprep_any (some ⟨gb, 0, none⟩) 1280 1280 B n HBB.out.1.symm (Nat.le_refl _) ⟨by omega, by omega⟩ w32 hbb.bytes).mono ?_
        rw [HBB.out.2.2.1]
        dsimp only
        rintro e w33 ⟨V3, rfl, ⟨sp33, ho33⟩, hbx⟩
        (replace hm := keep hbx hm; replace h32 := keep hbx h32; replace hB := hB.trans (hbx.mono hB.size))
        clear hbx hbb
        obtain ⟨V4, vc4, rfl, -⟩ := OwnB.open_ ho33
        go_wp2_with (first
          | ((with_reducible show wpList _ _ _ ((⟨none, _, _, _, _, _⟩ : Oper) :: _) _ _); refine wpList_store_blk (o := ⟨none, _, _, _, _, _⟩) ((Blk.new w33 29 #[.int .i64 0, .int .i64 0, .int .i64 0, .int .i64 0, .int .i64 0, .int .i64 0, .int .i64 0, .int .i64 0, .int .i64 0, .int .u64 0, .int .u64 0, .int .i64 0, .int .i64 0, .int .u64 0, .int .i64 0, .int .i64 0, .slice none 0 0])) (by rfl) _ _ _ (by rfl) (by rfl) (msgc FB (.slice V4 l.length vc4)) (by rfl) (sizeMsg) (by rfl) (msgc_size _ _) (msgc_one _ _ rfl) ?_; intro w34 h34 hu; have hbx := ((Below.refl w33.heap.size w33).alloc (Nat.le_refl _) (.cells #[.int .i64 0, .int .i64 0, .int .i64 0, .int .i64 0, .int .i64 0, .int .i64 0, .int .i64 0, .int .i64 0, .int .i64 0, .int .u64 0, .int .u64 0, .int .i64 0, .int .i64 0, .int .u64 0, .int .i64 0, .int .i64 0, .slice none 0 0] 29)).upd hu (Nat.le_refl _); (replace hm := keep hbx hm; replace h32 := keep hbx h32; replace ho33 := keep hbx ho33; replace hB := hB.trans (hbx.mono hB.size)); clear hbx hu; have e0 := h32.at_ 0 rfl; have e1 := h32.at_ 1 rfl; have e2 := h32.at_ 2 rfl; have d5 := hm.at_ 5 (msgc_at fx _ 5 (by omega)); have d3 := hm.at_ 3 (msgc_at fx _ 3 (by omega)))
          | ((with_reducible show wpList _ _ _ ((⟨some 161, _, _, _, _, _⟩ : Oper) :: _) _ _); refine wpList_want (by rfl) ?_; refine wpList_load_blk (o := ⟨some 161, _, _, _, _, _⟩) (h34) (by rfl) _ _ (by rfl) (by rfl) _ Tryd.underlying29 (by rfl) (sizeMsg) (msgc_size _ _) ?_)
          | ((with_reducible show wpList _ _ _ ((⟨some 162, _, _, _, _, _⟩ : Oper) :: _) _ _); refine wpList_want (by rfl) ?_; refine wpList_load_blk (o := ⟨some 162, _, _, _, _, _⟩) (hm) (by rfl) _ _ (by rfl) (by rfl) _ Tryd.underlying29 (by rfl) (sizeMsg) (msgc_size _ _) ?_)
          | fail)
        refine (sameMessage_any FB fx V4 A l.length l.length vc4 c l l rfl rfl _ (OwnB.bytes ho33) (Bytes.below hby0.out hB)).mono ?_
        rintro e w35 ⟨rfl, hbx⟩
        have HB := Lib.hid (hB.trans (hbx.mono hB.size))
        replace e0 := (hbx.cell (World.block_lt_of_cell? _ _ e0)).trans e0
        replace e1 := (hbx.cell (World.block_lt_of_cell? _ _ e1)).trans e1
        replace e2 := (hbx.cell (World.block_lt_of_cell? _ _ e2)).trans e2
        replace d5 := (hbx.cell (World.block_lt_of_cell? _ _ d5)).trans d5
        replace d3 := (hbx.cell (World.block_lt_of_cell? _ _ d3)).trans d3
        rw [(Hd.beq_same FB fx).2 HBB.out.2.2.2.2, decide_eq_true rfl]
        clear hbx hB hm h32 h34 ho33
        go_wp2
        go_ret
        exact ⟨by simp, HB.out⟩
      rw [decide_eq_false hcu]
      clear hcu
      go_wp2_with fail
      refine (sameBytes_any (some ⟨gc, 0, none⟩) (some ⟨gb, 0, none⟩) 256 256 capc 1280 CUT (B.take 256) HCC.out.1.symm (by rw [List.length_take, HBB.out.1]; rfl) w24 hbc (hbb.bytes.take 256)).mono ?_
      rintro e w25 ⟨rfl, hw25⟩
      rw [← hw25] at hm hbb hbu h14 hbc hB
      clear hw25
      by_cases hcb : CUT = B.take 256
      · rw [decide_eq_true hcb]
        have HCB2 := Lib.hid hcb
        clear hcb
        obtain ⟨mn, hj⟩ := Slot.judge_cut B CUT n FB l HNN.out.2 HBB.out.2.2.1 HBB.out.2.2.2.1 (.inr (.inr HCB2.out))
        rw [HBB.out.2.2.2.2 5 (by omega), HBB.out.2.2.2.2 3 (by omega)] at hj
        have HJ := Lib.hid hj
        have HW := Lib.hid hbc
        clear hj hbu
        go_wp2_with fail
        refine (judge_any (some ⟨gc, 0, none⟩) (some ⟨gb, 0, none⟩) 256 capc 1280 1280 CUT B n HNN.out.2 ⟨HCC.out.1.symm, HCC.out.2⟩ ⟨HBB.out.1.symm, Nat.le_refl _, by omega, by omega⟩ _ hbc hbb.bytes).mono ?_
        rintro e w31 ⟨rfl, hbx⟩
        (replace hm := keep hbx hm; replace hbb := keep hbx hbb; replace h14 := keep hbx h14; replace hB := hB.trans (hbx.mono hB.size))
        clear hbx hbc HW
        rw [HJ.out]
        go_wp2_with (first
          | ((with_reducible show wpList _ _ _ ((⟨none, _, _, _, _, _⟩ : Oper) :: _) _ _); refine wpList_store_blk (o := ⟨none, _, _, _, _, _⟩) h14 (by rfl) _ _ _ (by rfl) (by rfl) #[.int .i64 1, .int .i64 (fx 5), .int .i64 (fx 3), .bool mn] (by rfl) sizeSt hC14 (by rfl) (st_one _ _ _ _) ?_; intro w32 h32 hu; have hm := hm.upd hu HNE.out.1; have hbb := hbb.upd hu HNE.out.2.1; have hB := hB.upd hu HNE.out.2.2; clear hu)
          | fail)
        refine (sprep_any (some ⟨gb, 0, none⟩) 1280 1280 B n HBB.out.1.symm (Nat.le_refl _) ⟨by omega, by omega⟩ w32 hbb.bytes).mono ?_
        rw [HBB.out.2.2.1]
        dsimp only
        rintro e w33 ⟨V3, rfl, ⟨sp33, ho33⟩, hbx⟩
        (replace hm := keep hbx hm; replace h32 := keep hbx h32; replace hB := hB.trans (hbx.mono hB.size))
        clear hbx hbb
        obtain ⟨V4, vc4, rfl, -⟩ := OwnB.open_ ho33
        go_wp2_with (first
          | ((with_reducible show wpList _ _ _ ((⟨none, _, _, _, _, _⟩ : Oper) :: _) _ _); refine wpList_store_blk (o := ⟨none, _, _, _, _, _⟩) ((Blk.new w33 29 #[.int .i64 0, .int .i64 0, .int .i64 0, .int .i64 0, .int .i64 0, .int .i64 0, .int .i64 0, .int .i64 0, .int .i64 0, .int .u64 0, .int .u64 0, .int .i64 0, .int .i64 0, .int .u64 0, .int .i64 0, .int .i64 0, .slice none 0 0])) (by rfl) _ _ _ (by rfl) (by rfl) (msgc FB (.slice V4 l.length vc4)) (by rfl) (sizeMsg) (by rfl) (msgc_size _ _) (msgc_one _ _ rfl) ?_; intro w34 h34 hu; have hbx := ((Below.refl w33.heap.size w33).alloc (Nat.le_refl _) (.cells #[.int .i64 0, .int .i64 0, .int .i64 0, .int .i64 0, .int .i64 0, .int .i64 0, .int .i64 0, .int .i64 0, .int .i64 0, .int .u64 0, .int .u64 0, .int .i64 0, .int .i64 0, .int .u64 0, .int .i64 0, .int .i64 0, .slice none 0 0] 29)).upd hu (Nat.le_refl _); (replace hm := keep hbx hm; replace h32 := keep hbx h32; replace ho33 := keep hbx ho33; replace hB := hB.trans (hbx.mono hB.size)); clear hbx hu; have e0 := h32.at_ 0 rfl; have e1 := h32.at_ 1 rfl; have e2 := h32.at_ 2 rfl; have d5 := hm.at_ 5 (msgc_at fx _ 5 (by omega)); have d3 := hm.at_ 3 (msgc_at fx _ 3 (by omega)))
          | ((with_reducible show wpList _ _ _ ((⟨some 161, _, _, _, _, _⟩ : Oper) :: _) _ _); refine wpList_want (by rfl) ?_; refine wpList_load_blk (o := ⟨some 161, _, _, _, _, _⟩) (h34) (by rfl) _ _ (by rfl) (by rfl) _ Tryd.underlying29 (by rfl) (sizeMsg) (msgc_size _ _) ?_)
          | ((with_reducible show wpList _ _ _ ((⟨some 162, _, _, _, _, _⟩ : Oper) :: _) _ _); refine wpList_want (by rfl) ?_; refine wpList_load_blk (o := ⟨some 162, _, _, _, _, _⟩) (hm) (by rfl) _ _ (by rfl) (by rfl) _ Tryd.underlying29 (by rfl) (sizeMsg) (msgc_size _ _) ?_)
          | fail)
        refine (sameMessage_any FB fx V4 A l.length l.length vc4 c l l rfl rfl _ (OwnB.bytes ho33) (Bytes.below hby0.out hB)).mono ?_
        rintro e w35 ⟨rfl, hbx⟩
        have HB := Lib.hid (hB.trans (hbx.mono hB.size))
        replace e0 := (hbx.cell (World.block_lt_of_cell? _ _ e0)).trans e0
        replace e1 := (hbx.cell (World.block_lt_of_cell? _ _ e1)).trans e1
        replace e2 := (hbx.cell (World.block_lt_of_cell? _ _ e2)).trans e2
        replace d5 := (hbx.cell (World.block_lt_of_cell? _ _ d5)).trans d5
        replace d3 := (hbx.cell (World.block_lt_of_cell? _ _ d3)).trans d3
        rw [(Hd.beq_same FB fx).2 HBB.out.2.2.2.2, decide_eq_true rfl]
        clear hbx hB hm h32 h34 ho33
        go_wp2
        go_ret
        exact ⟨by simp, HB.out⟩
      rw [decide_eq_false hcb]
      have HB := Lib.hid hB
      clear hcb hm hbb hbu h14 hbc hB
      go_wp2
      go_ret
      exact ⟨rfl, HB.out⟩
  · go_wp2_with (first
      | ((with_reducible show wpList _ _ _ ((⟨none, _, _, _, _, _⟩ : Oper) :: _) _ _); refine wpList_store_blk (o := ⟨none, _, _, _, _, _⟩) ((Blk.new w12 29 #[.int .i64 0, .int .i64 0, .int .i64 0, .int .i64 0, .int .i64 0, .int .i64 0, .int .i64 0, .int .i64 0, .int .i64 0, .int .u64 0, .int .u64 0, .int .i64 0, .int .i64 0, .int .u64 0, .int .i64 0, .int .i64 0, .slice none 0 0])) (by rfl) _ _ _ (by rfl) (by rfl) (msgc F (.slice V2 D.length vc)) (by rfl) (sizeMsg) (by rfl) (msgc_size _ _) (msgc_one _ _ rfl) ?_; intro w13 h15 hu; have hbx := ((Below.refl w12.heap.size w12).alloc (Nat.le_refl _) (.cells #[.int .i64 0, .int .i64 0, .int .i64 0, .int .i64 0, .int .i64 0, .int .i64 0, .int .i64 0, .int .i64 0, .int .i64 0, .int .u64 0, .int .u64 0, .int .i64 0, .int .i64 0, .int .u64 0, .int .i64 0, .int .i64 0, .slice none 0 0] 29)).upd hu (Nat.le_refl _); (replace hm := keep hbx hm; replace hbb := keep hbx hbb; replace hbu := keep hbx hbu; replace h14 := keep hbx h14; replace ho12 := keep hbx ho12; replace hB := hB.trans (hbx.mono hB.size)); clear hbx hu)
      | ((with_reducible show wpList _ _ _ ((⟨some 88, _, _, _, _, _⟩ : Oper) :: _) _ _); refine wpList_want (by rfl) ?_; refine wpList_load_blk (o := ⟨some 88, _, _, _, _, _⟩) (h15) (by rfl) _ _ (by rfl) (by rfl) _ Tryd.underlying29 (by rfl) (sizeMsg) (msgc_size _ _) ?_)
      | ((with_reducible show wpList _ _ _ ((⟨some 89, _, _, _, _, _⟩ : Oper) :: _) _ _); refine wpList_want (by rfl) ?_; refine wpList_load_blk (o := ⟨some 89, _, _, _, _, _⟩) (hm) (by rfl) _ _ (by rfl) (by rfl) _ Tryd.underlying29 (by rfl) (sizeMsg) (msgc_size _ _) ?_)
      | fail)
    refine (sameMessage_any F fx V2 A D.length l.length vc c D l rfl rfl _ (OwnB.bytes ho12) (Bytes.below hby0.out hB)).mono ?_
    rintro e w16 ⟨rfl, hbx⟩
    (replace hm := keep hbx hm; replace hbb := keep hbx hbb; replace hbu := keep hbx hbu; replace h14 := keep hbx h14; replace hB := hB.trans (hbx.mono hB.size))
    clear hbx ho12 h15
    cases hsame : (Hd.beq F fx && decide (D = l))
    · have HB := Lib.hid hB
      clear hm hbb hbu h14 hB hsame
      go_wp2
      go_ret
      exact ⟨rfl, HB.out⟩
    · have hS : S1 = (1, fx 5, fx 3, true) := by
        rw [Bool.and_eq_true] at hsame
        obtain ⟨h5, h3⟩ := Hd.same_beq hsame.1
        rw [HS1.out, HUU.out.2, Slot.judge_left LL n HNN.out.2 HPR.out.1.symm, ← HPR.out.2, h5, h3]
      have e4 := Lib.hid (show decide (S1 = (4, 0, 0, false)) = false by rw [decide_eq_false_iff_not, hS]; intro e; injection e with e; omega)
      have e2 := Lib.hid (show decide (S1 = (2, 0, 0, false)) = false by rw [decide_eq_false_iff_not, hS]; intro e; injection e with e; omega)
      have HS := Lib.hid hS
      have d5 := hm.at_ 5 (msgc_at fx _ 5 (by omega))
      have d3 := hm.at_ 3 (msgc_at fx _ 3 (by omega))
      clear hS hsame
      go_wp2_with (first
        | ((with_reducible show wpList _ _ _ ((⟨some 94, _, _, _, _, _⟩ : Oper) :: _) _ _); refine wpList_load_blk (o := ⟨some 94, _, _, _, _, _⟩) (h14) (by rfl) _ _ (by rfl) (by rfl) _ Tryd.underlying47 (by rfl) (sizeSt) (hC14) ?_)
        | ((with_reducible show wpList _ _ _ ((⟨some 98, _, _, _, _, _⟩ : Oper) :: _) _ _); refine wpList_want (by rfl) ?_; refine wpList_load_blk (o := ⟨some 98, _, _, _, _, _⟩) (h14) (by rfl) _ _ (by rfl) (by rfl) _ Tryd.underlying47 (by rfl) (sizeSt) (hC14) ?_)
        | ((with_reducible show wpList _ _ _ ((⟨some 108, _, _, _, _, _⟩ : Oper) :: _) _ _); refine wpList_want (by rfl) ?_; refine wpList_load_blk (o := ⟨some 108, _, _, _, _, _⟩) (h14) (by rfl) _ _ (by rfl) (by rfl) _ Tryd.underlying47 (by rfl) (sizeSt) (hC14) ?_)
        | ((with_reducible show wpList _ _ _ ((⟨some 96, _, _, _, _, _⟩ : Oper) :: _) _ _); refine wpList_run (o := ⟨some 96, _, _, _, _, _⟩) (.bool false) (by rfl) ((exec_eql_st _ _ _ _ (by rfl) S1 (4, 0, 0, false) (by exact HC1.out.symm) (by rfl)).trans (by rw [e4.out])) ?_)
        | ((with_reducible show wpList _ _ _ ((⟨some 100, _, _, _, _, _⟩ : Oper) :: _) _ _); refine wpList_want (by rfl) ?_; refine wpList_run (o := ⟨some 100, _, _, _, _, _⟩) (.bool false) (by rfl) ((exec_eql_st _ _ _ _ (by rfl) S1 (2, 0, 0, false) (by exact HC1.out.symm) (by rfl)).trans (by rw [e2.out])) ?_)
        | fail)
      rw [← HC1.out]
      refine (isst_any S1 1 (fx 5) (fx 3) true w16).mono ?_
      rintro e w17 ⟨rfl, hbx⟩
      (replace hm := keep hbx hm; replace hbb := keep hbx hbb; replace hbu := keep hbx hbu; replace h14 := keep hbx h14; replace hB := hB.trans (hbx.mono hB.size))
      clear hbx d5 d3
      rw [decide_eq_true HS.out]
      go_wp2_with fail
      refine (part_any (some ⟨gu, 0, none⟩) (some ⟨gb, 0, none⟩) Bk 256 256 1280 dk U (B.take 256) ks tear (.inl rfl) HUU.out.1 (by rw [List.length_take, HBB.out.1]; rfl) (Nat.le_refl _) (by omega) HL.out.2 w17 hbu.bytes (hbb.bytes.take 256) (Reads.below hk0.out hB)).mono ?_
      rintro e w21 ⟨gc, capc, TC, rfl, -, hbc, hTc, hcc1, hcc2, hbx⟩
      (replace hm := keep hbx hm; replace hbb := keep hbx hbb; replace hbu := keep hbx hbu; replace h14 := keep hbx h14; replace hB := hB.trans (hbx.mono hB.size))
      clear hbx
      replace hbc := hbc.bytes.take 256
      have hcl : (TC.take 256).length = 256 := by rw [List.length_take, hTc]; omega
      obtain ⟨CUT, hCUT⟩ : ∃ x, x = TC.take 256 := ⟨_, rfl⟩
      rw [← hCUT] at hbc hcl
      have HCC := Lib.hid (And.intro hcl (And.intro hcc1 hcc2))
      clear hTc hcc1 hcc2 hCUT hcl
      go_wp2_with fail
      refine (hhead_any (some ⟨gc, 0, none⟩) 256 capc CUT HCC.out.1.symm HCC.out.2.1 HCC.out.2.2 w21 hbc).mono ?_
      rintro e w22 ⟨rfl, hbx⟩
      (replace hm := keep hbx hm; replace hbb := keep hbx hbb; replace hbu := keep hbx hbu; replace h14 := keep hbx h14; replace hbc := keep hbx hbc; replace hB := hB.trans (hbx.mono hB.size))
      clear hbx
      obtain ⟨G2, hG2⟩ : ∃ f, f = (Hd.read CUT).2 := ⟨_, rfl⟩
      obtain ⟨er, hE⟩ : ∃ f, f = (Hd.read CUT).1 := ⟨_, rfl⟩
      rw [← hG2, ← hE]
      have HER := Lib.hid hE
      clear hG2 hE
      by_cases h0 : er = 0
      case neg =>
        have hc0 : (er == 0) = false := by rw [beq_eq_false_iff_ne]; exact h0
        have HER0 := Lib.hid h0
        clear h0
        go_wp2_with (first
          | ((with_reducible show wpList _ _ _ ((⟨none, _, _, _, _, _⟩ : Oper) :: _) _ _); refine wpList_store_blk (o := ⟨none, _, _, _, _, _⟩) (((Blk.new w22 26 #[.int .i64 0, .int .i64 0, .int .i64 0, .int .i64 0, .int .i64 0, .int .i64 0, .int .i64 0, .int .i64 0, .int .i64 0, .int .u64 0, .int .u64 0, .int .i64 0, .int .i64 0, .int .u64 0, .int .i64 0, .int .i64 0]).sub zeroHd_cells.symm)) (by rfl) _ _ _ (by rfl) (by rfl) (hdc G2) (by rfl) (sizeHd) (hdc_size _) (hdc_size _) (hdc_one _) ?_; intro w23 h23 hu; have hbx := ((Below.refl w22.heap.size w22).alloc (Nat.le_refl _) (.cells #[.int .i64 0, .int .i64 0, .int .i64 0, .int .i64 0, .int .i64 0, .int .i64 0, .int .i64 0, .int .i64 0, .int .i64 0, .int .u64 0, .int .u64 0, .int .i64 0, .int .i64 0, .int .u64 0, .int .i64 0, .int .i64 0] 26)).upd hu (Nat.le_refl _); (replace hm := keep hbx hm; replace hbb := keep hbx hbb; replace hbu := keep hbx hbu; replace h14 := keep hbx h14; replace hbc := keep hbx hbc; replace hB := hB.trans (hbx.mono hB.size)); clear hbx hu h23)
          | fail)
        obtain ⟨mn, hj⟩ := Slot.judge_cut B CUT n FB l HNN.out.2 HBB.out.2.2.1 HBB.out.2.2.2.1 (.inl (by rw [← HER.out]; exact HER0.out))
        rw [HBB.out.2.2.2.2 5 (by omega), HBB.out.2.2.2.2 3 (by omega)] at hj
        have HJ := Lib.hid hj
        have HW := Lib.hid hbc
        clear hj hbu
        refine (judge_any (some ⟨gc, 0, none⟩) (some ⟨gb, 0, none⟩) 256 capc 1280 1280 CUT B n HNN.out.2 ⟨HCC.out.1.symm, HCC.out.2⟩ ⟨HBB.out.1.symm, Nat.le_refl _, by omega, by omega⟩ _ hbc hbb.bytes).mono ?_
        rintro e w31 ⟨rfl, hbx⟩
        (replace hm := keep hbx hm; replace hbb := keep hbx hbb; replace h14 := keep hbx h14; replace hB := hB.trans (hbx.mono hB.size))
        clear hbx hbc HW
        rw [HJ.out]
        go_wp2_with (first
          | ((with_reducible show wpList _ _ _ ((⟨none, _, _, _, _, _⟩ : Oper) :: _) _ _); refine wpList_store_blk (o := ⟨none, _, _, _, _, _⟩) h14 (by rfl) _ _ _ (by rfl) (by rfl) #[.int .i64 1, .int .i64 (fx 5), .int .i64 (fx 3), .bool mn] (by rfl) sizeSt hC14 (by rfl) (st_one _ _ _ _) ?_; intro w32 h32 hu; have hm := hm.upd hu HNE.out.1; have hbb := hbb.upd hu HNE.out.2.1; have hB := hB.upd hu HNE.out.2.2; clear hu)
          | fail)
        refine (sprep_any (some ⟨gb, 0, none⟩) 1280 1280 B n HBB.out.1.symm (Nat.le_refl _) ⟨by omega, by omega⟩ w32 hbb.bytes).mono ?_
        rw [HBB.out.2.2.1]
        dsimp only
        rintro e w33 ⟨V3, rfl, ⟨sp33, ho33⟩, hbx⟩
        (replace hm := keep hbx hm; replace h32 := keep hbx h32; replace hB := hB.trans (hbx.mono hB.size))
        clear hbx hbb
        obtain ⟨V4, vc4, rfl, -⟩ := OwnB.open_ ho33
        go_wp2_with (first
          | ((with_reducible show wpList _ _ _ ((⟨none, _, _, _, _, _⟩ : Oper) :: _) _ _); refine wpList_store_blk (o := ⟨none, _, _, _, _, _⟩) ((Blk.new w33 29 #[.int .i64 0, .int .i64 0, .int .i64 0, .int .i64 0, .int .i64 0, .int .i64 0, .int .i64 0, .int .i64 0, .int .i64 0, .int .u64 0, .int .u64 0, .int .i64 0, .int .i64 0, .int .u64 0, .int .i64 0, .int .i64 0, .slice none 0 0])) (by rfl) _ _ _ (by rfl) (by rfl) (msgc FB (.slice V4 l.length vc4)) (by rfl) (sizeMsg) (by rfl) (msgc_size _ _) (msgc_one _ _ rfl) ?_; intro w34 h34 hu; have hbx := ((Below.refl w33.heap.size w33).alloc (Nat.le_refl _) (.cells #[.int .i64 0, .int .i64 0, .int .i64 0, .int .i64 0, .int .i64 0, .int .i64 0, .int .i64 0, .int .i64 0, .int .i64 0, .int .u64 0, .int .u64 0, .int .i64 0, .int .i64 0, .int .u64 0, .int .i64 0, .int .i64 0, .slice none 0 0] 29)).upd hu (Nat.le_refl _); (replace hm := keep hbx hm; replace h32 := keep hbx h32; replace ho33 := keep hbx ho33; replace hB := hB.trans (hbx.mono hB.size)); clear hbx hu; have e0 := h32.at_ 0 rfl; have e1 := h32.at_ 1 rfl; have e2 := h32.at_ 2 rfl; have d5 := hm.at_ 5 (msgc_at fx _ 5 (by omega)); have d3 := hm.at_ 3 (msgc_at fx _ 3 (by omega)))
          | ((with_reducible show wpList _ _ _ ((⟨some 161, _, _, _, _, _⟩ : Oper) :: _) _ _); refine wpList_want (by rfl) ?_; refine wpList_load_blk (o := ⟨some 161, _, _, _, _, _⟩) (h34) (by rfl) _ _ (by rfl) (by rfl) _ Tryd.underlying29 (by rfl) (sizeMsg) (msgc_size _ _) ?_)
          | ((with_reducible show wpList _ _ _ ((⟨some 162, _, _, _, _, _⟩ : Oper) :: _) _ _); refine wpList_want (by rfl) ?_; refine wpList_load_blk (o := ⟨some 162, _, _, _, _, _⟩) (hm) (by rfl) _ _ (by rfl) (by rfl) _ Tryd.underlying29 (by rfl) (sizeMsg) (msgc_size _ _) ?_)
          | fail)
        refine (sameMessage_any FB fx V4 A l.length l.length vc4 c l l rfl rfl _ (OwnB.bytes ho33) (Bytes.below hby0.out hB)).mono ?_
        rintro e w35 ⟨rfl, hbx⟩
        have HB := Lib.hid (hB.trans (hbx.mono hB.size))
        replace e0 := (hbx.cell (World.block_lt_of_cell? _ _ e0)).trans e0
        replace e1 := (hbx.cell (World.block_lt_of_cell? _ _ e1)).trans e1
        replace e2 := (hbx.cell (World.block_lt_of_cell? _ _ e2)).trans e2
        replace d5 := (hbx.cell (World.block_lt_of_cell? _ _ d5)).trans d5
        replace d3 := (hbx.cell (World.block_lt_of_cell? _ _ d3)).trans d3
        rw [(Hd.beq_same FB fx).2 HBB.out.2.2.2.2, decide_eq_true rfl]
        clear hbx hB hm h32 h34 ho33
        go_wp2
        go_ret
        exact ⟨by simp, HB.out⟩
      subst h0
      go_wp2_with (first
        | ((with_reducible show wpList _ _ _ ((⟨none, _, _, _, _, _⟩ : Oper) :: _) _ _); refine wpList_store_blk (o := ⟨none, _, _, _, _, _⟩) (((Blk.new w22 26 #[.int .i64 0, .int .i64 0, .int .i64 0, .int .i64 0, .int .i64 0, .int .i64 0, .int .i64 0, .int .i64 0, .int .i64 0, .int .u64 0, .int .u64 0, .int .i64 0, .int .i64 0, .int .u64 0, .int .i64 0, .int .i64 0]).sub zeroHd_cells.symm)) (by rfl) _ _ _ (by rfl) (by rfl) (hdc G2) (by rfl) (sizeHd) (hdc_size _) (hdc_size _) (hdc_one _) ?_; intro w23 h23 hu; have hbx := ((Below.refl w22.heap.size w22).alloc (Nat.le_refl _) (.cells #[.int .i64 0, .int .i64 0, .int .i64 0, .int .i64 0, .int .i64 0, .int .i64 0, .int .i64 0, .int .i64 0, .int .i64 0, .int .u64 0, .int .u64 0, .int .i64 0, .int .i64 0, .int .u64 0, .int .i64 0, .int .i64 0] 26)).upd hu (Nat.le_refl _); (replace hm := keep hbx hm; replace hbb := keep hbx hbb; replace hbu := keep hbx hbu; replace h14 := keep hbx h14; replace hbc := keep hbx hbc; replace hB := hB.trans (hbx.mono hB.size)); clear hbx hu h23)
        | fail)
      refine (sameBytes_any (some ⟨gc, 0, none⟩) (some ⟨gu, 0, none⟩) 256 256 capc 256 CUT U HCC.out.1.symm HUU.out.1.symm w23 hbc hbu.bytes).mono ?_
      rintro e w24 ⟨rfl, hw24⟩
      rw [← hw24] at hm hbb hbu h14 hbc hB
      clear hw24
      by_cases hcu : CUT = U
      · rw [decide_eq_true hcu]
        have HCU := Lib.hid (show CUT = Hd.bytes (Slot.fU n) [] by rw [hcu, HUU.out.2])
        clear hcu
        obtain ⟨mn, hj⟩ := Slot.judge_cut B CUT n FB l HNN.out.2 HBB.out.2.2.1 HBB.out.2.2.2.1 (.inr (.inl HCU.out))
        rw [HBB.out.2.2.2.2 5 (by omega), HBB.out.2.2.2.2 3 (by omega)] at hj
        have HJ := Lib.hid hj
        have HW := Lib.hid hbc
        clear hj hbu
        go_wp2_with fail
        refine (judge_any (some ⟨gc, 0, none⟩) (some ⟨gb, 0, none⟩) 256 capc 1280 1280 CUT B n HNN.out.2 ⟨HCC.out.1.symm, HCC.out.2⟩ ⟨HBB.out.1.symm, Nat.le_refl _, by omega, by omega⟩ _ hbc hbb.bytes).mono ?_
        rintro e w31 ⟨rfl, hbx⟩
        (replace hm := keep hbx hm; replace hbb := keep hbx hbb; replace h14 := keep hbx h14; replace hB := hB.trans (hbx.mono hB.size))
        clear hbx hbc HW
        rw [HJ.out]
        go_wp2_with (first
          | ((with_reducible show wpList _ _ _ ((⟨none, _, _, _, _, _⟩ : Oper) :: _) _ _); refine wpList_store_blk (o := ⟨none, _, _, _, _, _⟩) h14 (by rfl) _ _ _ (by rfl) (by rfl) #[.int .i64 1, .int .i64 (fx 5), .int .i64 (fx 3), .bool mn] (by rfl) sizeSt hC14 (by rfl) (st_one _ _ _ _) ?_; intro w32 h32 hu; have hm := hm.upd hu HNE.out.1; have hbb := hbb.upd hu HNE.out.2.1; have hB := hB.upd hu HNE.out.2.2; clear hu)
          | fail)
        refine (sprep_any (some ⟨gb, 0, none⟩) 1280 1280 B n HBB.out.1.symm (Nat.le_refl _) ⟨by omega, by omega⟩ w32 hbb.bytes).mono ?_
        rw [HBB.out.2.2.1]
        dsimp only
        rintro e w33 ⟨V3, rfl, ⟨sp33, ho33⟩, hbx⟩
        (replace hm := keep hbx hm; replace h32 := keep hbx h32; replace hB := hB.trans (hbx.mono hB.size))
        clear hbx hbb
        obtain ⟨V4, vc4, rfl, -⟩ := OwnB.open_ ho33
        go_wp2_with (first
          | ((with_reducible show wpList _ _ _ ((⟨none, _, _, _, _, _⟩ : Oper) :: _) _ _); refine wpList_store_blk (o := ⟨none, _, _, _, _, _⟩) ((Blk.new w33 29 #[.int .i64 0, .int .i64 0, .int .i64 0, .int .i64 0, .int .i64 0, .int .i64 0, .int .i64 0, .int .i64 0, .int .i64 0, .int .u64 0, .int .u64 0, .int .i64 0, .int .i64 0, .int .u64 0, .int .i64 0, .int .i64 0, .slice none 0 0])) (by rfl) _ _ _ (by rfl) (by rfl) (msgc FB (.slice V4 l.length vc4)) (by rfl) (sizeMsg) (by rfl) (msgc_size _ _) (msgc_one _ _ rfl) ?_; intro w34 h34 hu; have hbx := ((Below.refl w33.heap.size w33).alloc (Nat.le_refl _) (.cells #[.int .i64 0, .int .i64 0, .int .i64 0, .int .i64 0, .int .i64 0, .int .i64 0, .int .i64 0, .int .i64 0, .int .i64 0, .int .u64 0, .int .u64 0, .int .i64 0, .int .i64 0, .int .u64 0, .int .i64 0, .int .i64 0, .slice none 0 0] 29)).upd hu (Nat.le_refl _); (replace hm := keep hbx hm; replace h32 := keep hbx h32; replace ho33 := keep hbx ho33; replace hB := hB.trans (hbx.mono hB.size)); clear hbx hu; have e0 := h32.at_ 0 rfl; have e1 := h32.at_ 1 rfl; have e2 := h32.at_ 2 rfl; have d5 := hm.at_ 5 (msgc_at fx _ 5 (by omega)); have d3 := hm.at_ 3 (msgc_at fx _ 3 (by omega)))
          | ((with_reducible show wpList _ _ _ ((⟨some 161, _, _, _, _, _⟩ : Oper) :: _) _ _); refine wpList_want (by rfl) ?_; refine wpList_load_blk (o := ⟨some 161, _, _, _, _, _⟩) (h34) (by rfl) _ _ (by rfl) (by rfl) _ Tryd.underlying29 (by rfl) (sizeMsg) (msgc_size _ _) ?_)
          | ((with_reducible show wpList _ _ _ ((⟨some 162, _, _, _, _, _⟩ : Oper) :: _) _ _); refine wpList_want (by rfl) ?_; refine wpList_load_blk (o := ⟨some 162, _, _, _, _, _⟩) (hm) (by rfl) _ _ (by rfl) (by rfl) _ Tryd.underlying29 (by rfl) (sizeMsg) (msgc_size _ _) ?_)
          | fail)
        refine (sameMessage_any FB fx V4 A l.length l.length vc4 c l l rfl rfl _ (OwnB.bytes ho33) (Bytes.below hby0.out hB)).mono ?_
        rintro e w35 ⟨rfl, hbx⟩
        have HB := Lib.hid (hB.trans (hbx.mono hB.size))
        replace e0 := (hbx.cell (World.block_lt_of_cell? _ _ e0)).trans e0
        replace e1 := (hbx.cell (World.block_lt_of_cell? _ _ e1)).trans e1
        replace e2 := (hbx.cell (World.block_lt_of_cell? _ _ e2)).trans e2
        replace d5 := (hbx.cell (World.block_lt_of_cell? _ _ d5)).trans d5
        replace d3 := (hbx.cell (World.block_lt_of_cell? _ _ d3)).trans d3
        rw [(Hd.beq_same FB fx).2 HBB.out.2.2.2.2, decide_eq_true rfl]
        clear hbx hB hm h32 h34 ho33
        go_wp2
        go_ret
        exact ⟨by simp, HB.out⟩
      rw [decide_eq_false hcu]
      clear hcu
      go_wp2_with fail
      refine (sameBytes_any (some ⟨gc, 0, none⟩) (some ⟨gb, 0, none⟩) 256 256 capc 1280 CUT (B.take 256) HCC.out.1.symm (by rw [List.length_take, HBB.out.1]; rfl) w24 hbc (hbb.bytes.take 256)).mono ?_
      rintro e w25 ⟨rfl, hw25⟩
      rw [← hw25] at hm hbb hbu h14 hbc hB
      clear hw25
      by_cases hcb : CUT = B.take 256
      · rw [decide_eq_true hcb]
        have HCB2 := Lib.hid hcb
        clear hcb
        obtain ⟨mn, hj⟩ := Slot.judge_cut B CUT n FB l HNN.out.2 HBB.out.2.2.1 HBB.out.2.2.2.1 (.inr (.inr HCB2.out))
        rw [HBB.out.2.2.2.2 5 (by omega), HBB.out.2.2.2.2 3 (by omega)] at hj
        have HJ := Lib.hid hj
        have HW := Lib.hid hbc
        clear hj hbu
        go_wp2_with fail
        refine (judge_any (some ⟨gc, 0, none⟩) (some ⟨gb, 0, none⟩) 256 capc 1280 1280 CUT B n HNN.out.2 ⟨HCC.out.1.symm, HCC.out.2⟩ ⟨HBB.out.1.symm, Nat.le_refl _, by omega, by omega⟩ _ hbc hbb.bytes).mono ?_
        rintro e w31 ⟨rfl, hbx⟩
        (replace hm := keep hbx hm; replace hbb := keep hbx hbb; replace h14 := keep hbx h14; replace hB := hB.trans (hbx.mono hB.size))
        clear hbx hbc HW
        rw [HJ.out]
        go_wp2_with (first
          | ((with_reducible show wpList _ _ _ ((⟨none, _, _, _, _, _⟩ : Oper) :: _) _ _); refine wpList_store_blk (o := ⟨none, _, _, _, _, _⟩) h14 (by rfl) _ _ _ (by rfl) (by rfl) #[.int .i64 1, .int .i64 (fx 5), .int .i64 (fx 3), .bool mn] (by rfl) sizeSt hC14 (by rfl) (st_one _ _ _ _) ?_; intro w32 h32 hu; have hm := hm.upd hu HNE.out.1; have hbb := hbb.upd hu HNE.out.2.1; have hB := hB.upd hu HNE.out.2.2; clear hu)
          | fail)
        refine (sprep_any (some ⟨gb, 0, none⟩) 1280 1280 B n HBB.out.1.symm (Nat.le_refl _) ⟨by omega, by omega⟩ w32 hbb.bytes).mono ?_
        rw [HBB.out.2.2.1]
        dsimp only
        rintro e w33 ⟨V3, rfl, ⟨sp33, ho33⟩, hbx⟩
        (replace hm := keep hbx hm; replace h32 := keep hbx h32; replace hB := hB.trans (hbx.mono hB.size))
        clear hbx hbb
        obtain ⟨V4, vc4, rfl, -⟩ := OwnB.open_ ho33
        go_wp2_with (first
          | ((with_reducible show wpList _ _ _ ((⟨none, _, _, _, _, _⟩ : Oper) :: _) _ _); refine wpList_store_blk (o := ⟨none, _, _, _, _, _⟩) ((Blk.new w33 29 #[.int .i64 0, .int .i64 0, .int .i64 0, .int .i64 0, .int .i64 0, .int .i64 0, .int .i64 0, .int .i64 0, .int .i64 0, .int .u64 0, .int .u64 0, .int .i64 0, .int .i64 0, .int .u64 0, .int .i64 0, .int .i64 0, .slice none 0 0])) (by rfl) _ _ _ (by rfl) (by rfl) (msgc FB (.slice V4 l.length vc4)) (by rfl) (sizeMsg) (by rfl) (msgc_size _ _) (msgc_one _ _ rfl) ?_; intro w34 h34 hu; have hbx := ((Below.refl w33.heap.size w33).alloc (Nat.le_refl _) (.cells #[.int .i64 0, .int .i64 0, .int .i64 0, .int .i64 0, .int .i64 0, .int .i64 0, .int .i64 0, .int .i64 0, .int .i64 0, .int .u64 0, .int .u64 0, .int .i64 0, .int .i64 0, .int .u64 0, .int .i64 0, .int .i64 0, .slice none 0 0] 29)).upd hu (Nat.le_refl _); (replace hm := keep hbx hm; replace h32 := keep hbx h32; replace ho33 := keep hbx ho33; replace hB := hB.trans (hbx.mono hB.size)); clear hbx hu; have e0 := h32.at_ 0 rfl; have e1 := h32.at_ 1 rfl; have e2 := h32.at_ 2 rfl; have d5 := hm.at_ 5 (msgc_at fx _ 5 (by omega)); have d3 := hm.at_ 3 (msgc_at fx _ 3 (by omega)))
          | ((with_reducible show wpList _ _ _ ((⟨some 161, _, _, _, _, _⟩ : Oper) :: _) _ _); refine wpList_want (by rfl) ?_; refine wpList_load_blk (o := ⟨some 161, _, _, _, _, _⟩) (h34) (by rfl) _ _ (by rfl) (by rfl) _ Tryd.underlying29 (by rfl) (sizeMsg) (msgc_size _ _) ?_)
          | ((with_reducible show wpList _ _ _ ((⟨some 162, _, _, _, _, _⟩ : Oper) :: _) _ _); refine wpList_want (by rfl) ?_; refine wpList_load_blk (o := ⟨some 162, _, _, _, _, _⟩) (hm) (by rfl) _ _ (by rfl) (by rfl) _ Tryd.underlying29 (by rfl) (sizeMsg) (msgc_size _ _) ?_)
          | fail)
        refine (sameMessage_any FB fx V4 A l.length l.length vc4 c l l rfl rfl _ (OwnB.bytes ho33) (Bytes.below hby0.out hB)).mono ?_
        rintro e w35 ⟨rfl, hbx⟩
        have HB := Lib.hid (hB.trans (hbx.mono hB.size))
        replace e0 := (hbx.cell (World.block_lt_of_cell? _ _ e0)).trans e0
        replace e1 := (hbx.cell (World.block_lt_of_cell? _ _ e1)).trans e1
        replace e2 := (hbx.cell (World.block_lt_of_cell? _ _ e2)).trans e2
        replace d5 := (hbx.cell (World.block_lt_of_cell? _ _ d5)).trans d5
        replace d3 := (hbx.cell (World.block_lt_of_cell? _ _ d3)).trans d3
        rw [(Hd.beq_same FB fx).2 HBB.out.2.2.2.2, decide_eq_true rfl]
        clear hbx hB hm h32 h34 ho33
        go_wp2
        go_ret
        exact ⟨by simp, HB.out⟩
      rw [decide_eq_false hcb]
      have HB := Lib.hid hB
      clear hcb hm hbb hbu h14 hbc hB
      go_wp2
      go_ret
      exact ⟨rfl, HB.out⟩
end Go.Proofs.YtekdcjaljjlemaaDoor
