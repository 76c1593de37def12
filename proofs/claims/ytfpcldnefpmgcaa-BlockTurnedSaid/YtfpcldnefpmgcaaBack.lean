/- The statement that what is sealed is opened as it was, as a call: it answers true and writes nothing that was there. Condition: the bytes can be read. -/
import Derived.Test.YtfpcldnefpmgcaaKnown
import Derived.Test.YtfpcldnefpmgcaaKeep
namespace Go.Proofs.Ytfpcldnefpmgcaa
open Go.RowKit
theorem Sha.opened_cases (l : List UInt8) : Sha.opened l = (4, []) ∨ Sha.opened l = (12, []) ∨ (Sha.opened l = (0, l.drop 16) ∧ Sha.seal_ (l.drop 16) = l) := by
  unfold Sha.opened Sha.seal_
  by_cases h : l.length < 16
  · rw [if_pos h]; exact .inl rfl
  · rw [if_neg h]
    by_cases h2 : Sha.sum (l.drop 16) = l.take 16
    · rw [if_pos h2]; exact .inr (.inr ⟨rfl, by rw [h2, List.take_append_drop]⟩)
    · rw [if_neg h2]; exact .inr (.inl rfl)
set_option maxHeartbeats 1000000 in
set_option maxRecDepth 100000 in
theorem back_any (A B : Option Addr) (n m c d : Nat) (l k : List UInt8) (hn : n = l.length) (hm : m = k.length) (hc : l.length ≤ c) (hd : k.length ≤ d) (hc3 : c ≤ 9223372036854775807) (hd3 : d ≤ 9223372036854775807) (w : World) (hl : Bytes w A l) (hk : Bytes w B k) :
    Calls Try.prog 6 #[.slice A n c, .slice B m d] w fun e w' => e = .returned (.bool true) ∧ Below w.heap.size w w' := by
  subst hn hm
  by_cases h1 : 5000 < l.length
  · go_enter Try.func6, Try.ntmps6
    go_wp2_with fail
    refine (known_any w).mono ?_
    rintro e w1 ⟨rfl, hB⟩
    go_wp2
    go_ret
    exact ⟨rfl, hB⟩
  by_cases h2 : 5000 < k.length
  · go_enter Try.func6, Try.ntmps6
    go_wp2_with fail
    refine (known_any w).mono ?_
    rintro e w1 ⟨rfl, hB⟩
    go_wp2
    go_ret
    exact ⟨rfl, hB⟩
  have hsl : (Sha.seal_ l).length = 16 + l.length := by unfold Sha.seal_; rw [List.length_append, Sha.sum_length]
  have HSL := Lib.hid hsl
  clear hsl
  go_enter Try.func6, Try.ntmps6
  go_wp2_with fail
  refine (known_any w).mono ?_
  rintro e w1 ⟨rfl, hB⟩
  replace hl := keep hB hl
  replace hk := keep hB hk
  go_wp2_with fail
  refine (seal_any A _ c l rfl hc ⟨by omega, hc3⟩ w1 hl).mono ?_
  rintro e w2 ⟨v2, sp2, rfl, ho2, hbx⟩
  (replace hl := keep hbx hl; replace hk := keep hbx hk; replace hB := hB.trans (hbx.mono hB.size); clear hbx)
  obtain ⟨A2, c2, rfl, hc2, hm2, hs2⟩ := OwnB.open_ ho2
  clear ho2
  go_wp2_with fail
  refine (open_any A2 _ c2 (Sha.seal_ l) rfl hc2 ⟨by have := HSL.out; omega, hm2⟩ w2 hs2).mono ?_
  rintro e w3 ⟨v3, rfl, ⟨sp3, ho3⟩, hbx⟩
  (replace hl := keep hbx hl; replace hk := keep hbx hk; replace hB := hB.trans (hbx.mono hB.size); clear hbx)
  rw [Sha.opened_seal] at ho3 ⊢
  obtain ⟨A3, c3, rfl, hc3', hm3, hs3⟩ := OwnB.open_ ho3
  clear ho3 hs2
  go_wp2_with fail
  refine (sameBytes_any A3 A _ _ c3 c l l rfl rfl w3 hs3 hl).mono ?_
  rintro e w3 ⟨rfl, rfl⟩
  rw [decide_eq_true rfl]
  go_wp2_with fail
  refine (open_any B _ d k rfl hd ⟨by omega, hd3⟩ w3 hk).mono ?_
  rintro e w4 ⟨v4, rfl, ⟨sp4, ho4⟩, hbx⟩
  (replace hk := keep hbx hk; replace hB := hB.trans (hbx.mono hB.size); clear hbx)
  obtain ⟨A4, c4, rfl, hc4, hm4, hs4⟩ := OwnB.open_ ho4
  clear ho4 hl hs3
  rcases Sha.opened_cases k with hq | hq | ⟨hq, hq2⟩
  · rw [hq]
    clear hq
    go_wp2
    go_ret
    exact ⟨rfl, hB⟩
  · rw [hq]
    clear hq
    go_wp2
    go_ret
    exact ⟨rfl, hB⟩
  · rw [hq] at hs4 hc4 ⊢
    have HQ := Lib.hid hq2
    clear hq hq2
    have hdl : (k.drop 16).length ≤ 5000 := by rw [List.length_drop]; omega
    obtain ⟨D, hD⟩ : ∃ D, D = k.drop 16 := ⟨_, rfl⟩
    simp only [] at hs4 hc4 ⊢
    rw [← hD] at hs4 hc4 hdl HQ ⊢
    clear hD
    go_wp2_with fail
    refine (seal_any A4 _ c4 D rfl hc4 ⟨by omega, hm4⟩ w4 hs4).mono ?_
    rintro e w5 ⟨v5, sp5, rfl, ho5, hbx⟩
    (replace hk := keep hbx hk; replace hB := hB.trans (hbx.mono hB.size); clear hbx)
    obtain ⟨A5, c5, rfl, hc5, hm5, hs5⟩ := OwnB.open_ ho5
    clear ho5
    rw [HQ.out] at hs5 ⊢
    go_wp2_with fail
    refine (sameBytes_any A5 B _ _ c5 d k k rfl rfl w5 hs5 hk).mono ?_
    rintro e w5 ⟨rfl, rfl⟩
    rw [decide_eq_true rfl]
    go_wp2
    go_ret
    exact ⟨rfl, hB⟩
end Go.Proofs.Ytfpcldnefpmgcaa
